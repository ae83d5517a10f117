/- The engine, part X: loops over functions, whole; what they leave deferred; an array's element by its number. -/
import Derived.Test.YtnlkggppokcmfaaW
namespace Go.Proofs.YtnlkggppokcmfaaE
open Go
set_option linter.unusedVariables false
set_option linter.unusedSimpArgs false
set_option linter.unusedSectionVars false
def sEq (a b : ByteArray) : Bool := a.toList == b.toList
theorem size_len (bs : ByteArray) : bs.size = bs.data.toList.length := by rw [Array.length_toList]; rfl
theorem toList_loop (bs : ByteArray) : ∀ (n i : Nat) (r : List UInt8), bs.size - i = n → ByteArray.toList.loop bs i r = r.reverse ++ bs.data.toList.drop i
  | n, i, r, h => by
    unfold ByteArray.toList.loop
    split
    · rename_i hi
      cases n with
      | zero => omega
      | succ n =>
        rw [toList_loop bs n (i + 1) _ (by omega)]
        have hi' : i < bs.data.toList.length := by rw [← size_len]; exact hi
        rw [List.drop_eq_getElem_cons hi']
        have hg : bs.get! i = bs.data.toList[i] := by
          have h2 : i < bs.data.size := by simpa using hi'
          show bs.data[i]! = _
          rw [getElem!_pos bs.data i h2]
          simp
        simp [hg]
    · rename_i hi
      have : bs.data.toList.length ≤ i := by rw [← size_len]; omega
      rw [List.drop_of_length_le this]
      simp
theorem toList_eq (bs : ByteArray) : bs.toList = bs.data.toList := by
  unfold ByteArray.toList
  rw [toList_loop bs _ 0 [] rfl]
  simp
theorem sEq_iff {a b : ByteArray} : sEq a b = true ↔ a = b := by
  unfold sEq
  rw [toList_eq, toList_eq, beq_iff_eq]
  constructor
  · intro h
    cases a
    cases b
    simpa using h
  · rintro rfl; rfl
theorem e_slice_view {P : Program} {o : Oper} {ev_ : Operand → Value} {K : Value → World → Prop} {w : World} {α : Type} (kt : Ty α) (t e : TypeId) (x : Operand) (lo hi : Option Operand) (inf : TypeInfo) (A : Option Addr) (c : Nat) (xs : List α) (kl kh : IntKind) (l h : Int) (hop : o.op = .slice t x lo hi none)
    (hx : ev_ x = .slice A xs.length c) (hlo : (lo.map ev_).getD (.int .i64 0) = .int kl l) (hhi : (hi.map ev_).getD (.int .i64 xs.length) = .int kh h)
    (ht : P.underlying t = some (.slice e)) (hi' : P.info? e = some inf) (hsz : inf.size = kt.sz) (hc : xs.length ≤ c) (hb : 0 ≤ l ∧ l ≤ h ∧ h ≤ xs.length)
    (h : ∀ A' c', (∀ H, rdS kt H A xs → rdS kt H A' (subl xs l h)) → (subl xs l h).length ≤ c' → K (.slice A' (subl xs l h).length c') w) : Eff P o ev_ w K := by
  have hrun := run_slice_opt (w := w) A xs.length c (lo.map ev_) (hi.map ev_) kl kh l _ ht hi' hlo hhi hb hc
  refine eff_val _ (w' := w) ?_ (h _ (c - l.toNat) (fun H hr => hr.sub hc hb hsz) ?_)
  · simp only [execOp, hop, hx, Option.map_none, Sem.run_bind, hrun, Result.andThen, Sem.run, pure, subl_len hb]
  · rw [subl_len hb]; omega
def bagx {ι : Type} (p : ι → Prop) (L : ι → List Asrt) : Asrt :=
  .any (fun H F => ∃ i, p i ∧ sep (L i) H F) (fun ⟨i, hp, h⟩ hF => ⟨i, hp, h.mono hF⟩) (fun ⟨i, hp, h⟩ hF => ⟨i, hp, h.congr hF⟩)
section
variable {M : Mem} {w : World} {L L0 : List Asrt} {P : Program}
def rest (L : List Asrt) : Asrt := bagx (fun _ : Unit => True) (fun _ => L)
end
section
variable {E : Env} {Ds : List Nat} {k : List Item} {f : Nat → Value} {w : World} {M : Mem} {L : List Asrt}
end
structure IsRec (fn : FuncId) (tmps : Array Value) (ps : Array Tmp) (assign body : Code) (r : Loop) : Prop where
  fn : r.fn = fn
  tmps : r.tmps = tmps
  params : r.params = ps
  assign : r.assign = assign
  body : r.body = body
section
variable {E : Env} {Ds : List Nat} {k : List Item} {f : Nat → Value} {w : World} {M : Mem} {L : List Asrt}
end
end Go.Proofs.YtnlkggppokcmfaaE
