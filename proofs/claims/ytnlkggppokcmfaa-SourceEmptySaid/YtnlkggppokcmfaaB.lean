/- The engine, part B: a region's operations one by one and in batches. -/
import Derived.Test.YtnlkggppokcmfaaA
namespace Go.Proofs.YtnlkggppokcmfaaE
open Go
set_option linter.unusedVariables false
set_option linter.unusedSimpArgs false
def GoO (E : Env) (ops : Array Oper) (i : Nat) (k : List Item) (f : Nat → Value) (w : World) : Prop :=
  Go E (.inRegion ops ((List.range ops.size).drop i) :: k) f w
theorem drop_range {n i : Nat} (h : i < n) : (List.range n).drop i = i :: (List.range n).drop (i + 1) := by
  rw [List.drop_eq_getElem_cons (by simpa using h)]
  simp
theorem lt_of_get {α : Type} {ops : Array α} {i : Nat} {o : α} (ho : ops[i]? = some o) : i < ops.size := by
  rcases Nat.lt_or_ge i ops.size with h | h
  · exact h
  · rw [Array.getElem?_eq_none h] at ho; cases ho
section
variable {E : Env} {ops : Array Oper} {k : List Item} {f : Nat → Value} {w w' : World}
theorem r_in {id : Nat} (h : GoO E ops 0 k f w) : Go E (.code (.region id ops false) :: k) f w := go_region (by simpa [GoO] using h)
theorem r_out {i : Nat} (hi : Nat.ble ops.size i = true) (h : Go E k f w) : GoO E ops i k f w := by
  unfold GoO
  rw [List.drop_eq_nil_of_le (by simpa using Nat.le_of_ble_eq_true hi)]
  exact go_done h
theorem o_val (i : Nat) (o : Oper) (v : Value) (ho : ops[i]? = some o) (hw : wants E.N ops f o = true)
    (hr : (execOp (ev E.N f) o).run E.P w = .ok (.value v) w') (h : GoO E ops (i + 1) k (updO f o.dst v) w') : GoO E ops i k f w := by
  unfold GoO
  rw [drop_range (lt_of_get ho)]
  exact go_val o v ho hw hr h
theorem o_unit (i : Nat) (o : Oper) (ho : ops[i]? = some o) (hw : wants E.N ops f o = true)
    (hr : (execOp (ev E.N f) o).run E.P w = .ok .skip w') (h : GoO E ops (i + 1) k (updO f o.dst undef) w') : GoO E ops i k f w := by
  unfold GoO
  rw [drop_range (lt_of_get ho)]
  exact go_unit o ho hw hr h
theorem o_off (i : Nat) (o : Oper) (ho : ops[i]? = some o) (hw : wants E.N ops f o = false)
    (h : GoO E ops (i + 1) k (updO f o.dst undef) w) : GoO E ops i k f w := by
  unfold GoO
  rw [drop_range (lt_of_get ho)]
  exact go_off o ho hw h
theorem o_call {R : Ending → World → Prop} (i : Nat) (o : Oper) (g : FuncId) (args : Array Value) (ho : ops[i]? = some o) (hw : wants E.N ops f o = true)
    (hr : (execOp (ev E.N f) o).run E.P w = .ok (.enter g args) w') (hc : Calls E.P g args w' R)
    (h : ∀ e w'', R e w'' → ∃ v, e = .returned v ∧ GoO E ops (i + 1) k (updO f o.dst v) w'') : GoO E ops i k f w := by
  unfold GoO
  rw [drop_range (lt_of_get ho)]
  exact go_call o g args ho hw hr hc h
end
theorem o_call2 {E : Env} {ops : Array Oper} {k : List Item} {f : Nat → Value} {w w' : World} (i : Nat) (o : Oper) (g : FuncId) (args : Array Value) (ho : ops[i]? = some o) (hw : wants E.N ops f o = true)
    (hr : (execOp (ev E.N f) o).run E.P w = .ok (.enter g args) w') (hc : Calls E.P g args w' fun e w'' => ∃ v, e = .returned v ∧ GoO E ops (i + 1) k (updO f o.dst v) w'') : GoO E ops i k f w :=
  o_call i o g args ho hw hr hc (fun e w'' h => h)
def EffOf (P : Program) (K : Value → World → Prop) : Result Next → Prop
  | .ok (.value v) w' => K v w'
  | .ok .skip w' => K undef w'
  | .ok (.enter g args) w' => Calls P g args w' fun e w'' => ∃ v, e = .returned v ∧ K v w''
  | _ => False
structure Eff (P : Program) (o : Oper) (e : Operand → Value) (w : World) (K : Value → World → Prop) : Prop where
  out : EffOf P K ((execOp e o).run P w)
theorem eff_val {P : Program} {o : Oper} {e : Operand → Value} {w w' : World} {K : Value → World → Prop} (v : Value) (hr : (execOp e o).run P w = .ok (.value v) w') (h : K v w') : Eff P o e w K := by
  constructor; rw [hr]; exact h
theorem eff_unit {P : Program} {o : Oper} {e : Operand → Value} {w w' : World} {K : Value → World → Prop} (hr : (execOp e o).run P w = .ok .skip w') (h : K undef w') : Eff P o e w K := by
  constructor; rw [hr]; exact h
theorem eff_call {P : Program} {o : Oper} {e : Operand → Value} {w w' : World} {K : Value → World → Prop} {R : Ending → World → Prop} (g : FuncId) (args : Array Value) (hr : (execOp e o).run P w = .ok (.enter g args) w') (hc : Calls P g args w' R)
    (h : ∀ e w'', R e w'' → ∃ v, e = .returned v ∧ K v w'') : Eff P o e w K := by
  constructor; rw [hr]; exact hc.mono h
def nth {α : Type} : List α → Nat → Option α
  | [], _ => none
  | a :: _, 0 => some a
  | _ :: l, n + 1 => nth l n
theorem nth_eq {α : Type} : ∀ (l : List α) (i : Nat), nth l i = l[i]?
  | [], _ => by simp [nth]
  | a :: _, 0 => by simp [nth]
  | _ :: l, n + 1 => by simp [nth, nth_eq l n]
theorem o_eff {E : Env} {ops : Array Oper} {k : List Item} {f : Nat → Value} {w : World} (i : Nat) (o : Oper) (hn : nth ops.toList i = some o) (hw : wants E.N ops f o = true)
    (h : Eff E.P o (ev E.N f) w (fun v w' => GoO E ops (i + 1) k (updO f o.dst v) w')) : GoO E ops i k f w := by
  have ho : ops[i]? = some o := by rw [nth_eq] at hn; simpa using hn
  replace h := h.out
  cases hr : (execOp (ev E.N f) o).run E.P w with
  | halt x w' => rw [hr] at h; exact h.elim
  | ok n w' =>
    rw [hr] at h
    cases n <;> first
      | exact o_val i o _ ho hw hr h
      | exact o_unit i o ho hw hr h
      | exact o_call2 i o _ _ ho hw hr h
      | exact h.elim
def Rd (P : Program) (N : Nat) (ops : Array Oper) (w : World) : Nat → Nat → (Nat → Value) → ((Nat → Value) → Prop) → Prop
  | 0, _, f, K => K f
  | n + 1, i, f, K => ∃ o, ops[i]? = some o ∧
      ((wants N ops f o = false ∧ Rd P N ops w n (i + 1) (updO f o.dst undef) K) ∨
       ∃ v, wants N ops f o = true ∧ (execOp (ev N f) o).run P w = .ok (.value v) w ∧ Rd P N ops w n (i + 1) (updO f o.dst v) K)
theorem Rd.mono {P : Program} {N : Nat} {ops : Array Oper} {w : World} {K K' : (Nat → Value) → Prop} (hK : ∀ f, K f → K' f) : ∀ {n i : Nat} {f : Nat → Value}, Rd P N ops w n i f K → Rd P N ops w n i f K'
  | 0, _, _, h => hK _ h
  | n + 1, i, f, ⟨o, ho, h⟩ => ⟨o, ho, h.imp (fun ⟨a, b⟩ => ⟨a, b.mono hK⟩) (fun ⟨v, a, b, c⟩ => ⟨v, a, b, c.mono hK⟩)⟩
theorem Rd.append {P : Program} {N : Nat} {ops : Array Oper} {w : World} {K : (Nat → Value) → Prop} {m : Nat} : ∀ {n i : Nat} {f : Nat → Value}, Rd P N ops w n i f (fun f' => Rd P N ops w m (i + n) f' K) → Rd P N ops w (n + m) i f K
  | 0, i, f, h => by rw [Nat.zero_add]; exact h
  | n + 1, i, f, ⟨o, ho, h⟩ => by
    rw [show n + 1 + m = (n + m) + 1 by omega]
    have e : ∀ f', Rd P N ops w m (i + (n + 1)) f' K → Rd P N ops w m (i + 1 + n) f' K := fun f' h => by rw [show i + 1 + n = i + (n + 1) by omega]; exact h
    exact ⟨o, ho, h.imp (fun ⟨a, b⟩ => ⟨a, Rd.append (b.mono e)⟩) (fun ⟨v, a, b, c⟩ => ⟨v, a, b, Rd.append (c.mono e)⟩)⟩
theorem Rd.go {E : Env} {ops : Array Oper} {k : List Item} {w : World} : ∀ {n i : Nat} {f : Nat → Value}, Rd E.P E.N ops w n i f (fun f' => GoO E ops (i + n) k f' w) → GoO E ops i k f w
  | 0, _, _, h => h
  | n + 1, i, f, ⟨o, ho, h⟩ => by
    have e : ∀ f', GoO E ops (i + (n + 1)) k f' w → GoO E ops (i + 1 + n) k f' w := fun f' h => by rw [show i + 1 + n = i + (n + 1) by omega]; exact h
    rcases h with ⟨hw, h⟩ | ⟨v, hw, hr, h⟩
    · exact o_off i o ho hw (Rd.go (h.mono e))
    · exact o_val i o v ho hw hr (Rd.go (h.mono e))
abbrev Grp := Nat × Nat × List Value
def Grp.ok (w : World) (g : Grp) : Prop := ∀ j u, g.2.2[j]? = some u → w.cell? ⟨g.1, g.2.1 + j, none⟩ = some u
def Grps (w : World) : List Grp → Prop
  | [] => True
  | g :: r => Grp.ok w g ∧ Grps w r
theorem Grps.get {w : World} : ∀ {G : List Grp} {i : Nat} {g : Grp}, Grps w G → G[i]? = some g → g.ok w
  | g :: r, 0, _, h, e => by cases e; exact h.1
  | g :: r, i + 1, _, h, e => Grps.get (G := r) (i := i) h.2 (by simpa using e)
theorem addr_add (b o n : Nat) : (⟨b, o, none⟩ : Addr).add n = ⟨b, o + n, none⟩ := by
  unfold Addr.add
  split <;> simp_all
theorem run_load {P : Program} {w : World} {a : Addr} {v : Value} (h : w.cell? a = some v) : (Go.load a).run P w = .ok v w := by
  simp [Go.load, Sem.run, h]
theorem run_loadCellsFrom {P : Program} {w : World} (b o : Nat) : ∀ (cs : List Value) (i : Nat) (acc : Array Value), (∀ j u, cs[j]? = some u → w.cell? ⟨b, o + i + j, none⟩ = some u) →
    (loadCellsFrom ⟨b, o, none⟩ i cs.length acc).run P w = .ok (acc ++ cs.toArray) w
  | [], i, acc, _ => by simp [loadCellsFrom, pure, Sem.run]
  | c :: cs, i, acc, h => by
    have h0 := h 0 c rfl
    have hr := run_loadCellsFrom (P := P) b o cs (i + 1) (acc.push c) (fun j u hu => by
      have := h (j + 1) u (by simpa using hu)
      rw [show o + (i + 1) + j = o + i + (j + 1) by omega]
      exact this)
    simp only [List.length_cons, loadCellsFrom, addr_add, Go.load, bind, Sem.bind, Sem.run]
    rw [show o + i = o + i + 0 by rfl, h0]
    simp only [Sem.bind]
    rw [hr]
    simp
theorem run_loadCells {P : Program} {w : World} (b o : Nat) (cs : List Value) (h : ∀ j u, cs[j]? = some u → w.cell? ⟨b, o + j, none⟩ = some u) :
    (loadCells ⟨b, o, none⟩ cs.length).run P w = .ok cs.toArray w := by
  have := run_loadCellsFrom (P := P) b o cs 0 #[] (by simpa using h)
  simpa [loadCells] using this
theorem run_underlying' {P : Program} {w : World} {t : TypeId} {d : TypeDesc} (h : P.underlying t = some d) : (underlying t).run P w = .ok d w := by
  simp [underlying, program, Sem.run, h]
theorem run_sizeOf {P : Program} {w : World} {t : TypeId} {i : TypeInfo} (h : P.info? t = some i) : (sizeOf t).run P w = .ok i.size w := by
  simp [sizeOf, typeInfo, program, Sem.run, h]
theorem run_isAgg {P : Program} {w : World} {t : TypeId} {d : TypeDesc} (h : P.underlying t = some d) :
    (isAgg t).run P w = .ok (match d with | .struct _ | .array _ _ => true | _ => false) w := by
  simp only [isAgg, Sem.run_bind, run_underlying' h]
  cases d <;> rfl
theorem Grp.drop {w : World} {b o : Nat} {cs : List Value} (h : Grp.ok w (b, o, cs)) (j : Nat) : Grp.ok w (b, o + j, cs.drop j) := by
  intro i u hu
  have := h (j + i) u (by simpa using hu)
  rw [show o + j + i = o + (j + i) by omega]
  exact this
theorem run_loadVar {P : Program} {w : World} {t : TypeId} {b o : Nat} {cs : List Value} {v : Value} (h : cut P t cs = some v) (hg : Grp.ok w (b, o, cs)) :
    (loadVar t ⟨b, o, none⟩).run P w = .ok v w := by
  unfold cut at h
  cases hd : P.underlying t with
  | none => rw [hd] at h; cases h
  | some d =>
    cases hi : P.info? t with
    | none => rw [hd, hi] at h; cases d <;> cases h
    | some i =>
      rw [hd, hi] at h
      have agg : ((bif Nat.ble i.size cs.length then some (Value.agg (cs.take i.size).toArray) else none) = some v) →
          (do pure (Value.agg (← loadCells ⟨b, o, none⟩ (← sizeOf t))) : Sem Value).run P w = .ok v w := by
        intro h
        have hle : i.size ≤ cs.length := by
          cases e : Nat.ble i.size cs.length with
          | true => exact Nat.le_of_ble_eq_true e
          | false => rw [e] at h; cases h
        rw [show Nat.ble i.size cs.length = true from Nat.ble_eq_true_of_le hle] at h
        cases h
        have hc := run_loadCells (P := P) (w := w) b o (cs.take i.size) (fun j u hu => by
          rw [List.getElem?_take] at hu
          split at hu
          · exact hg j u hu
          · cases hu)
        rw [List.length_take, Nat.min_eq_left hle] at hc
        simp only [Sem.run_bind, run_sizeOf hi, Result.andThen, hc, Sem.run, pure]
      have one : cs.head? = some v → (Go.load ⟨b, o, none⟩).run P w = .ok v w := by
        intro h
        exact run_load (hg 0 v (by rw [← List.head?_eq_getElem?]; exact h))
      simp only [loadVar, Sem.run_bind, run_isAgg hd]
      cases d <;> first | exact agg h | exact one h
def bt (s : ByteArray) (i : Int) : Int := if h : i.toNat < s.size then ((s[i.toNat]'h).toNat : Int) else 0
abbrev Owed := List (Value × Value) × List (Int × Nat)
def Bnds : List (Int × Nat) → Prop
  | [] => True
  | p :: r => (0 ≤ p.1 ∧ p.1 < p.2) ∧ Bnds r
theorem Bnds.app {a b : List (Int × Nat)} (h : Bnds (a ++ b)) : Bnds a ∧ Bnds b := by
  induction a with
  | nil => exact ⟨trivial, h⟩
  | cons p r ih => exact ⟨⟨h.1, (ih h.2).1⟩, (ih h.2).2⟩
def eq0 (P : Program) (t : TypeId) (x y : Value) : Option Bool :=
  match P.underlying t, x, y with
  | some .bool, .bool a, .bool b => some (a == b)
  | some (.int _), .int k a, .int k' b => bif decide (k = k') then some (a == b) else none
  | some .string, .string a, .string b => some (a == b)
  | _, _, _ => none
def eqFs (P : Program) (rec : TypeId → Value → Value → Option Bool) (xs ys : Array Value) : List Field → Option Bool
  | [] => some true
  | f :: fs => bif f.name == "_" then none else
    match Sem.pureRun P (part f.type xs f.offset), Sem.pureRun P (part f.type ys f.offset) with
    | some a, some b => match rec f.type a b, eqFs P rec xs ys fs with
      | some r, some s => some (r && s)
      | _, _ => none
    | _, _ => none
def eqS (P : Program) (rec : TypeId → Value → Value → Option Bool) (t : TypeId) (x y : Value) : Option Bool :=
  match P.underlying t, x, y with
  | some (.struct fs), .agg xs, .agg ys => bif P.stoodInHeld t then none else eqFs P rec xs ys fs.toList
  | some (.array 2 e), .agg xs, .agg ys => match P.info? e with
    | some i => match Sem.pureRun P (part e xs 0), Sem.pureRun P (part e ys 0), Sem.pureRun P (part e xs i.size), Sem.pureRun P (part e ys i.size) with
      | some a, some b, some c, some d => match rec e a b, rec e c d with
        | some r, some s => some (r && s)
        | _, _ => none
      | _, _, _, _ => none
    | none => none
  | _, _, _ => eq0 P t x y
theorem eq0zrun {P : Program} {t : TypeId} {x y : Value} {r : Bool} {w : World} (h : eq0 P t x y = some r) (d : Nat) : (Op.equalIn (d + 1) t x y).run P w = .ok r w := by
  unfold eq0 at h
  split at h
  · rename_i a b hu
    cases h
    simp only [Op.equalIn, Sem.run_bind, run_underlying' hu, Result.andThen, Sem.run, pure]
  · rename_i kk k a k' b hu
    cases e : decide (k = k') with
    | false => rw [e] at h; cases h
    | true =>
      rw [e] at h
      cases h
      have e := of_decide_eq_true e
      subst e
      simp only [Op.equalIn, Sem.run_bind, run_underlying' hu, Result.andThen, Sem.run, pure, if_true]
  · rename_i a b hu
    cases h
    simp only [Op.equalIn, Sem.run_bind, run_underlying' hu, Result.andThen, Sem.run, pure]
  · cases h
theorem eqFs_run {P : Program} {rec : TypeId → Value → Value → Option Bool} {d : Nat} {w : World} (hrec : ∀ t x y r, rec t x y = some r → (Op.equalIn d t x y).run P w = .ok r w) {xs ys : Array Value} :
    ∀ {fs : List Field} {r : Bool}, eqFs P rec xs ys fs = some r → (Op.eqFields d xs ys fs).run P w = .ok r w
  | [], r, h => by cases h; simp [Op.eqFields, Sem.run, pure]
  | f :: fs, r, h => by
    simp only [eqFs] at h
    cases hn : (f.name == "_") with
    | true => rw [hn] at h; cases h
    | false =>
      rw [hn, cond_false] at h
      have hn' : f.name ≠ "_" := by simpa using hn
      split at h
      · rename_i a b ha hb
        split at h
        · rename_i r1 s1 h1 h2
          cases h
          have e1 := hrec _ _ _ _ h1
          have e2 := eqFs_run hrec h2
          rw [Op.eqFields]
          simp only [if_pos hn', Sem.run_bind, Sem.pureRun_run _ ha w, Sem.pureRun_run _ hb w, e1, Result.andThen]
          cases r1
          · simp [Sem.run, pure]
          · simpa using e2
        · cases h
      · cases h
theorem eqS_run {P : Program} {rec : TypeId → Value → Value → Option Bool} {d : Nat} {w : World} (hrec : ∀ t x y r, rec t x y = some r → (Op.equalIn d t x y).run P w = .ok r w) {t : TypeId} {x y : Value} {r : Bool}
    (h : eqS P rec t x y = some r) : (Op.equalIn (d + 1) t x y).run P w = .ok r w := by
  unfold eqS at h
  split at h
  · rename_i fs xs ys hu
    cases hp : P.stoodInHeld t with
    | true => rw [hp] at h; cases h
    | false =>
      rw [hp, cond_false] at h
      have hf : P.fieldsOf t = fs := by simp [Program.fieldsOf, hu]
      rw [run_equalIn_struct (P := P) w d t xs ys (by rw [hf]; exact hu) hp, hf]
      exact eqFs_run hrec h
  · rename_i e xs ys hu
    split at h
    · rename_i i hi
      split at h
      · rename_i a b c dd ha hb hc hd
        split at h
        · rename_i r1 s1 h1 h2
          cases h
          have e1 := hrec _ _ _ _ h1
          have e2 := hrec _ _ _ _ h2
          simp only [Op.equalIn, Sem.run_bind, run_underlying' hu, run_sizeOf hi, Result.andThen]
          simp only [Std.Legacy.Range.forIn_eq_forIn_range', Std.Legacy.Range.size, Nat.sub_zero, Nat.add_sub_cancel, Nat.div_one, List.range', List.forIn_cons, List.forIn_nil, Nat.zero_mul, Nat.zero_add, Nat.one_mul, Sem.run_bind,
            Sem.pureRun_run _ ha w, Sem.pureRun_run _ hb w, Sem.pureRun_run _ hc w, Sem.pureRun_run _ hd w, e1, e2, Result.andThen]
          cases r1 <;> cases s1 <;> simp [Sem.run, pure, Sem.pureRun_run _ ha w, Sem.pureRun_run _ hb w, Sem.pureRun_run _ hc w, Sem.pureRun_run _ hd w, e1, e2, Result.andThen, Sem.run_bind]
        · cases h
      · cases h
    · cases h
  · exact eq0zrun h d
def eq2 (P : Program) (t : TypeId) (x y : Value) : Option Bool := eqS P (eqS P (eq0 P)) t x y
theorem eq2zrun {P : Program} {t : TypeId} {x y : Value} {r : Bool} {w : World} (h : eq2 P t x y = some r) : (Op.equal t x y).run P w = .ok r w :=
  eqS_run (d := 9999) (fun _ _ _ _ h => eqS_run (d := 9998) (fun _ _ _ _ h => eq0zrun h 9997) h) h
def far : Nat := 9223372036854775808
def stepX (P : Program) (o : Oper) (e : Operand → Value) : Option (Value × List (Int × Nat)) :=
  match o.op with
  | .indexAddr t x ix => match P.underlying t, e x, e ix with
    | some (.slice el), .slice (some ⟨b, off, none⟩) n _, .int _ j => match P.info? el with
      | some i => some (.pointer (some ⟨b, off + j.toNat * i.size, none⟩), [(j, n)])
      | none => none
    | some (.array n el), .pointer (some ⟨b, off, none⟩), .int _ j => match P.info? el with
      | some i => some (.pointer (some ⟨b, off + j.toNat * i.size, none⟩), [(j, n)])
      | none => none
    | _, _, _ => none
  | .index t x ix => match P.underlying t, e x, e ix with
    | some .string, .string s, .int _ j => some (.int .u8 (bt s j), [(j, s.size)])
    | _, _, _ => none
  | .slice t x lo hi none => match P.underlying t, e x with
    | some (.slice el), .slice A n c => match lo.map e, hi.map e, P.info? el with
      | none, some (.int _ h), some _ => some (.slice A h.toNat c, [(h, c + 1)])
      | some (.int _ l), _, some i => match (hi.map e).getD (.int .i64 n) with
        | .int _ h => some (sliced A l.toNat h.toNat c i.size, [(l, h.toNat + 1), (h, c + 1)])
        | _ => none
      | _, _, _ => none
    | some .string, .string s => match (lo.map e).getD (.int .i64 0), (hi.map e).getD (.int .i64 s.size) with
      | .int kl l, .int kh h => some (.string (s.extract l.toNat h.toNat), [(l, h.toNat + 1), (h, s.size + 1)])
      | _, _ => none
    | _, _ => none
  | .binOp .eql t x y _ => match e x, e y with
    | .agg a, .agg b => bif P.eqGuardType P.depth t then none else match eq2 P t (.agg a) (.agg b) with
      | some r => some (.bool r, [])
      | none => none
    | _, _ => none
  | .binOp .neq t x y _ => match e x, e y with
    | .agg a, .agg b => bif P.eqGuardType P.depth t then none else match eq2 P t (.agg a) (.agg b) with
      | some r => some (.bool (!r), [])
      | none => none
    | _, _ => none
  | .binOp .shl _ x y _ => match e x, e y with
    | .int k a, .int _ b => some (.int k (k.wrap (a * 2 ^ (min b.toNat k.bits))), [(b, far)])
    | _, _ => none
  | .binOp .shr _ x y _ => match e x, e y with
    | .int k a, .int _ b => some (.int k (a.fdiv (2 ^ (min b.toNat k.bits))), [(b, far)])
    | _, _ => none
  | .binOp .rem _ x y _ => match e x, e y with
    | .int k a, .int k' b => bif decide (k = k') then some (.int k (a.tmod b), [(if b = 0 then 1 else 0, 1)]) else none
    | _, _ => none
  | .binOp .quo _ x y _ => match e x, e y with
    | .int k a, .int k' b => bif decide (k = k') then some (.int k (k.wrap (a.tdiv b)), [(if b = 0 then 1 else 0, 1)]) else none
    | _, _ => none
  | _ => none
inductive Hint where
  | p
  | c (b : Bool)
  | x
  | l (g j : Nat)
def stepB (P : Program) (G : List Grp) (o : Oper) (e : Operand → Value) : Hint → Option (Value × Owed)
  | .p => match pureOp P o e with | some v => some (v, [], []) | none => none
  | .c b => match pureOp P o e with | some (.bool t) => some (.bool b, [], [(bif t == b then 0 else -1, 1)]) | _ => none
  | .x => match stepX P o e with | some (v, bs) => some (v, [], bs) | none => none
  | .l gi j => match o.op, G[gi]? with
    | .load t x, some (b, off, cs) => match cut P t (cs.drop j) with
      | some v => some (v, [(e x, .pointer (some ⟨b, off + j, none⟩))], [])
      | none => none
    | _, _ => none
def runB (P : Program) (N : Nat) (ops : Array Oper) (G : List Grp) : List Hint → Nat → (Nat → Value) → Option ((Nat → Value) × Owed)
  | [], _, f => some (f, [], [])
  | h :: hs, i, f => match ops[i]? with
    | none => none
    | some o => bif wants N ops f o then
        match stepB P G o (ev N f) h with
        | some (v, oa, ob) => match runB P N ops G hs (i + 1) (updO f o.dst v) with
          | some (f', ra, rb) => some (f', oa ++ ra, ob ++ rb)
          | none => none
        | none => none
      else runB P N ops G hs (i + 1) (updO f o.dst undef)
theorem bndEq {t b : Bool} (h : t = b) : 0 ≤ (bif t == b then (0 : Int) else -1) ∧ (bif t == b then (0 : Int) else -1) < ((1 : Nat) : Int) := by
  subst h
  cases t <;> decide
theorem stepX_run {P : Program} {o : Oper} {e : Operand → Value} {v : Value} {bs : List (Int × Nat)} {w : World} (hs : stepX P o e = some (v, bs)) (hb : Bnds bs) : (execOp e o).run P w = .ok (.value v) w := by
  unfold stepX at hs
  split at hs
  · rename_i t x ix hop
    split at hs
    · rename_i el b off n c kk j hu hx hix
      split at hs
      · rename_i i hi
        cases hs
        have hb' := hb.1
        simp only [execOp, hop, hx, hix, Instr.indexAt, asIntOf, Sem.run_bind, Sem.run, pure, Result.andThen, run_underlying' hu]
        rw [if_pos hb']
        simp only [Sem.run_bind, run_sizeOf hi, Result.andThen, Sem.run, addr_add]
      · cases hs
    · rename_i n el b off kk j hu hx hix
      split at hs
      · rename_i i hi
        cases hs
        have hb' := hb.1
        simp only [execOp, hop, hx, hix, Instr.indexAt, asIntOf, Instr.sureAddr, Sem.run_bind, Sem.run, pure, Result.andThen, run_underlying' hu]
        rw [if_pos hb']
        simp only [Sem.run_bind, run_sizeOf hi, Result.andThen, Sem.run, addr_add]
      · cases hs
    · cases hs
  · rename_i t x ix hop
    split at hs
    · rename_i s kk j hu hx hix
      cases hs
      have hb' := hb.1
      have hlt : j.toNat < s.size := by omega
      have hg : (if 0 ≤ j then s[j.toNat]? else none) = some (s[j.toNat]'hlt) := by
        rw [if_pos hb'.1]
        exact getElem?_pos s j.toNat hlt
      simp only [execOp, hop, hx, hix, Instr.index, asIntOf, Sem.run_bind, Sem.run, pure, Result.andThen, run_underlying' hu, hg]
      simp [bt, hlt]
    · cases hs
  · rename_i t x lo hi hop
    split at hs
    · rename_i el A n c hu hx
      split at hs
      · rename_i kh h i hlo hhi hi'
        cases hs
        have h1 := hb.1
        have hlo : lo = none := by cases lo with | none => rfl | some _ => cases hlo
        subst hlo
        have hel : P.elem t = el := by simp [Program.elem, hu]
        have hz : (sizeOf (P.elem t)).run P w = .ok i.size w := by rw [hel]; exact run_sizeOf hi'
        have ht' : P.underlying t = some (.slice (P.elem t)) := by rw [hel]; exact hu
        have hrun : (Instr.sliceAt t (.slice A n c) none (some (.int kh h)) none).run P w = .ok (.slice A h.toNat c) w := by
          rw [run_sliceAt_slice w t _ _ _ _ ht', run_slice_h w t A n c ht' kh h (by omega) (by omega), hz]
          have hA : (if c = 0 then A else A.map fun x => x.add (0 * i.size)) = A := by
            split
            · rfl
            · cases A with
              | none => rfl
              | some a => cases a; simp [Addr.add]
          simp only [Result.andThen, sliced, hA, Nat.sub_zero]
        simp only [execOp, hop, hx, Option.map_none, hhi, Sem.run_bind, hrun, Result.andThen, Sem.run, pure]
      · rename_i kl l i hlo hi'
        split at hs
        · rename_i kh h hhi
          cases hs
          have h1 := hb.1
          have h2 := hb.2.1
          have hel : P.elem t = el := by simp [Program.elem, hu]
          have hz : (sizeOf (P.elem t)).run P w = .ok i.size w := by rw [hel]; exact run_sizeOf hi'
          have ht' : P.underlying t = some (.slice (P.elem t)) := by rw [hel]; exact hu
          have hrun : (Instr.sliceAt t (.slice A n c) (some (.int kl l)) (hi.map e) none).run P w = .ok (sliced A l.toNat h.toNat c i.size) w := by
            rw [run_sliceAt_slice w t _ _ _ _ ht']
            cases hi with
            | none =>
              cases hhi
              rw [Option.map_none, run_slice_l w t A n c ht' kl l (by omega) (by omega), hz]
              simp only [Result.andThen, Int.toNat_natCast]
            | some hi =>
              simp only [Option.map_some, Option.getD_some] at hhi
              rw [Option.map_some, hhi, run_slice_lh w t A n c ht' kl kh l h (by omega) (by omega) (by omega), hz]
              simp only [Result.andThen]
          simp only [execOp, hop, hx, Option.map_none, hlo, Sem.run_bind, hrun, Result.andThen, Sem.run, pure]
        · cases hs
      · cases hs
    · rename_i s hu hx
      split at hs
      · rename_i kl l kh h hlo hhi
        cases hs
        have h1 := hb.1
        have h2 := hb.2.1
        have e1 : (h.toNat : Int) = h := Int.toNat_of_nonneg h2.1
        have e2 : (l.toNat : Int) = l := Int.toNat_of_nonneg h1.1
        have b1 : ∀ (k : IntKind) (i : Int) (y : Nat) (code : BoundsCode), 0 ≤ i → i ≤ y → (Instr.sliceBound (.int k i) y code).run P w = .ok i.toNat w := fun k i y code => run_sliceBound w k i y code
        simp only [execOp, hop, hx]
        have hs' : (Instr.sliceAt t (.string s) (lo.map e) (hi.map e) (Option.map e none)).run P w = .ok (.string (s.extract l.toNat h.toNat)) w := by
          rw [run_sliceAt_string w t _ _ _ _ hu]
          have l1 : ∀ code, (Instr.sliceBound (.int kl l) h.toNat code).run P w = .ok l.toNat w := fun code => b1 kl l h.toNat code h1.1 (by omega)
          have l2 : ∀ code, (Instr.sliceBound (.int kh h) s.size code).run P w = .ok h.toNat w := fun code => b1 kh h s.size code h2.1 (by omega)
          cases hi with
          | none =>
            cases hhi
            cases lo with
            | none =>
              cases hlo
              simp [Instr.slice, run_underlying' hu, Instr.sliceBounds, Sem.run_bind, Result.andThen, Sem.run, pure]
            | some lo =>
              simp only [Option.map_some, Option.getD_some] at hlo
              simp only [Int.toNat_natCast] at l1
              simp [Instr.slice, run_underlying' hu, Instr.sliceBounds, Sem.run_bind, Result.andThen, Sem.run, pure, hlo, l1]
          | some hi =>
            simp only [Option.map_some, Option.getD_some] at hhi
            cases lo with
            | none =>
              cases hlo
              simp [Instr.slice, run_underlying' hu, Instr.sliceBounds, Sem.run_bind, Result.andThen, Sem.run, pure, hhi, l2]
            | some lo =>
              simp only [Option.map_some, Option.getD_some] at hlo
              simp [Instr.slice, run_underlying' hu, Instr.sliceBounds, Sem.run_bind, Result.andThen, Sem.run, pure, hlo, hhi, l1, l2]
        simp only [Sem.run_bind, hs', Result.andThen, Sem.run, pure]
      · cases hs
    · cases hs
  · rename_i t x y yt hop
    split at hs
    · rename_i a b hx hy
      cases hg : P.eqGuardType P.depth t with
      | true => rw [hg] at hs; cases hs
      | false =>
        rw [hg, cond_false] at hs
        split at hs
        · rename_i r hr
          cases hs
          simp [execOp, hop, hx, hy, eqGuard, binOp, Sem.run_bind, Sem.run, program, pure, Result.andThen, hg, eq2zrun hr]
        · cases hs
    · cases hs
  · rename_i t x y yt hop
    split at hs
    · rename_i a b hx hy
      cases hg : P.eqGuardType P.depth t with
      | true => rw [hg] at hs; cases hs
      | false =>
        rw [hg, cond_false] at hs
        split at hs
        · rename_i r hr
          cases hs
          simp [execOp, hop, hx, hy, eqGuard, binOp, Sem.run_bind, Sem.run, program, pure, Result.andThen, hg, eq2zrun hr]
        · cases hs
    · cases hs
  · rename_i t x y yt hop
    split at hs
    · rename_i k a k' b hx hy
      cases hs
      have hb' := hb.1
      simp only [execOp, hop, hx, hy, eqGuard, binOp, Op.shift, Sem.run_bind, Sem.run, pure, Result.andThen]
      simp [show ¬ b < 0 by omega, Sem.run, pure]
    · cases hs
  · rename_i t x y yt hop
    split at hs
    · rename_i k a k' b hx hy
      cases hs
      have hb' := hb.1
      simp only [execOp, hop, hx, hy, eqGuard, binOp, Op.shift, Sem.run_bind, Sem.run, pure, Result.andThen]
      simp [show ¬ b < 0 by omega, Sem.run, pure]
    · cases hs
  · rename_i t x y yt hop
    split at hs
    · rename_i k a k' b hx hy
      cases hk : decide (k = k') with
      | false => rw [hk] at hs; cases hs
      | true =>
        rw [hk, cond_true] at hs
        have hk := of_decide_eq_true hk
        subst hk
        cases hs
        have hb' := hb.1
        have h0 : b ≠ 0 := by intro e; rw [if_pos e] at hb'; exact absurd hb'.2 (by decide)
        simp only [execOp, hop, hx, hy, eqGuard, binOp, Op.intDiv, Sem.run_bind, Sem.run, pure, Result.andThen]
        simp [h0, Sem.run, pure]
    · cases hs
  · rename_i t x y yt hop
    split at hs
    · rename_i k a k' b hx hy
      cases hk : decide (k = k') with
      | false => rw [hk] at hs; cases hs
      | true =>
        rw [hk, cond_true] at hs
        have hk := of_decide_eq_true hk
        subst hk
        cases hs
        have hb' := hb.1
        have h0 : b ≠ 0 := by intro e; rw [if_pos e] at hb'; exact absurd hb'.2 (by decide)
        simp only [execOp, hop, hx, hy, eqGuard, binOp, Op.intDiv, Sem.run_bind, Sem.run, pure, Result.andThen]
        simp [h0, Sem.run, pure]
    · cases hs
  · cases hs
theorem stepB_run {P : Program} {G : List Grp} {o : Oper} {e : Operand → Value} {h : Hint} {v : Value} {oa : List (Value × Value)} {ob : List (Int × Nat)} {w : World}
    (hs : stepB P G o e h = some (v, oa, ob)) (ha : oa.map (·.1) = oa.map (·.2)) (hb : Bnds ob) (hG : Grps w G) : (execOp e o).run P w = .ok (.value v) w := by
  cases h with
  | p =>
    simp only [stepB] at hs
    split at hs
    · rename_i v' hp
      cases hs
      exact pureOp_run hp w
    · cases hs
  | c b =>
    simp only [stepB] at hs
    split at hs
    · rename_i t hp
      cases hs
      have h1 := hb.1.1
      have ht : t = b := by
        cases t <;> cases b <;> first | rfl | (exact absurd h1 (by decide))
      subst ht
      exact pureOp_run hp w
    · cases hs
  | x =>
    simp only [stepB] at hs
    split at hs
    · rename_i v' bs hp
      cases hs
      exact stepX_run hp hb
    · cases hs
  | l gi j =>
    simp only [stepB] at hs
    split at hs
    · rename_i t x b off cs hop hg
      split at hs
      · rename_i v' hc
        cases hs
        simp only [List.map_cons, List.map_nil, List.cons.injEq, and_true] at ha
        have hl := run_loadVar (P := P) hc (Grp.drop (hG.get hg) j)
        simp only [execOp, hop, ha, Instr.loadAt, Instr.sureAddr, Sem.run_bind, Result.andThen, Sem.run, pure, hl]
      · cases hs
    · cases hs
theorem runB_rd {P : Program} {N : Nat} {ops : Array Oper} {G : List Grp} {w : World} {K : (Nat → Value) → Prop} (hG : Grps w G) : ∀ {hs : List Hint} {i : Nat} {f f' : Nat → Value} {oa : List (Value × Value)} {ob : List (Int × Nat)},
    runB P N ops G hs i f = some (f', oa, ob) → oa.map (·.1) = oa.map (·.2) → Bnds ob → K f' → Rd P N ops w hs.length i f K
  | [], i, f, f', oa, ob, h, _, _, hK => by
    simp only [runB, Option.some.injEq, Prod.mk.injEq] at h
    rw [← h.1] at hK
    exact hK
  | h :: hs, i, f, f', oa, ob, hr, ha, hb, hK => by
    simp only [runB] at hr
    split at hr
    · cases hr
    · rename_i o ho
      cases hw : wants N ops f o with
      | false =>
        rw [hw, cond_false] at hr
        exact ⟨o, ho, .inl ⟨hw, runB_rd hG hr ha hb hK⟩⟩
      | true =>
        rw [hw, cond_true] at hr
        split at hr
        · rename_i v oa1 ob1 hst
          split at hr
          · rename_i f1 ra rb hrest
            cases hr
            rw [List.map_append, List.map_append] at ha
            have hl := List.append_inj ha (by simp)
            have hb2 := Bnds.app hb
            exact ⟨o, ho, .inr ⟨v, hw, stepB_run hst hl.1 hb2.1 hG, runB_rd hG hrest hl.2 hb2.2 hK⟩⟩
          · cases hr
        · cases hr
def frameOf (r : Option ((Nat → Value) × Owed)) : Option (Nat → Value) := match r with | some (f, _) => some f | none => none
def addrsOf (r : Option ((Nat → Value) × Owed)) (s : Bool) : List Value := match r with | some (_, l, _) => l.map (fun p => bif s then p.1 else p.2) | none => []
def bndsOf (r : Option ((Nat → Value) × Owed)) : List (Int × Nat) := match r with | some (_, _, l) => l | none => []
theorem rd_batchF {P : Program} {N : Nat} {ops : Array Oper} {w : World} {K : (Nat → Value) → Prop} {n : Nat} {f : Nat → Value} (i : Nat) (G : List Grp) (hs : List Hint) (f1 : Nat → Value) (bs : List (Int × Nat))
    (hG : Grps w G) (hB : Bnds bs) (hr : frameOf (runB P N ops G hs i f) = some f1) (ha : addrsOf (runB P N ops G hs i f) true = addrsOf (runB P N ops G hs i f) false)
    (hb : bndsOf (runB P N ops G hs i f) = bs) (h : Rd P N ops w n (i + hs.length) f1 K) : Rd P N ops w (hs.length + n) i f K := by
  cases e : runB P N ops G hs i f with
  | none => rw [e] at hr; cases hr
  | some r =>
    obtain ⟨f', oa, ob⟩ := r
    rw [e] at hr ha hb
    simp only [frameOf, Option.some.injEq] at hr
    simp only [addrsOf] at ha
    simp only [bndsOf] at hb
    subst hb
    refine Rd.append (runB_rd hG e ?_ hB ?_)
    · simpa using ha
    · rw [hr]; exact h
theorem rd_batch {P : Program} {N : Nat} {ops : Array Oper} {w : World} {K : (Nat → Value) → Prop} {n : Nat} {f : Nat → Value} (i : Nat) (G : List Grp) (hs : List Hint) (us : List (Nat × Value)) (bs : List (Int × Nat))
    (hG : Grps w G) (hB : Bnds bs) (hr : frameOf (runB P N ops G hs i f) = some (updL f us)) (ha : addrsOf (runB P N ops G hs i f) true = addrsOf (runB P N ops G hs i f) false)
    (hb : bndsOf (runB P N ops G hs i f) = bs) (h : Rd P N ops w n (i + hs.length) (updL f us) K) : Rd P N ops w (hs.length + n) i f K := rd_batchF i G hs _ bs hG hB hr ha hb h
theorem o_batch {E : Env} {ops : Array Oper} {k : List Item} {w : World} {f : Nat → Value} (i : Nat) (G : List Grp) (hs : List Hint) (us : List (Nat × Value)) (bs : List (Int × Nat))
    (hG : Grps w G) (hB : Bnds bs) (hr : frameOf (runB E.P E.N ops G hs i f) = some (updL f us)) (ha : addrsOf (runB E.P E.N ops G hs i f) true = addrsOf (runB E.P E.N ops G hs i f) false)
    (hb : bndsOf (runB E.P E.N ops G hs i f) = bs) (h : GoO E ops (i + hs.length) k (updL f us) w) : GoO E ops i k f w := by
  refine Rd.go (n := hs.length + 0) (rd_batch i G hs us bs hG hB hr ha hb ?_)
  simpa [Rd] using h
theorem updL_at (f : Nat → Value) : ∀ (us : List (Nat × Value)), us.map (fun p => f p.1) = us.map (·.2) → updL f us = f
  | [], _ => rfl
  | (d, v) :: r, h => by
    simp only [List.map_cons, List.cons.injEq] at h
    obtain ⟨h1, h2⟩ := h
    show updL (upd f d v) r = f
    rw [← h1, upd_self]
    exact updL_at f r h2
end Go.Proofs.YtnlkggppokcmfaaE
