/- Short forms of the rules: what can be computed is not written. -/
import Derived.Test.YtnlkggppokcmfaaL
namespace Go.Proofs.YtnlkggppokcmfaaE
open Go Go.Proofs
set_option linter.unusedVariables false
set_option linter.unusedSimpArgs false
abbrev vI (x : Int) : Value := .int .i64 x
abbrev vP (b o : Nat) : Value := .pointer (some ⟨b, o, none⟩)
abbrev vS (a : Option Addr) (n c : Nat) : Value := .slice a n c
abbrev vB (b : Bool) : Value := .bool b
theorem gO {w : World} : Grps w [] := trivial
theorem gA {w : World} {a : Grp} (h : Grp.ok w a) : Grps w [a] := ⟨h, trivial⟩
theorem gB {w : World} {a b : Grp} (h : Grp.ok w a) (h2 : Grp.ok w b) : Grps w [a, b] := ⟨h, h2, trivial⟩
theorem gC {w : World} {a b c : Grp} (h : Grp.ok w a) (h2 : Grp.ok w b) (h3 : Grp.ok w c) : Grps w [a, b, c] := ⟨h, h2, h3, trivial⟩
theorem gD {w : World} {a b c d : Grp} (h : Grp.ok w a) (h2 : Grp.ok w b) (h3 : Grp.ok w c) (h4 : Grp.ok w d) : Grps w [a, b, c, d] := ⟨h, h2, h3, h4, trivial⟩
theorem gK {w : World} {a : Grp} {r : List Grp} (h : Grp.ok w a) (hr : Grps w r) : Grps w (a :: r) := ⟨h, hr⟩
def nfB (E : Env) (ops : Array Oper) (G : List Grp) (hs : List Hint) (i : Nat) (f : Nat → Value) : Nat → Value := (frameOf (runB E.P E.N ops G hs i f)).getD f
theorem nfB_some {E : Env} {ops : Array Oper} {G : List Grp} {hs : List Hint} {i : Nat} {f : Nat → Value} (h : (frameOf (runB E.P E.N ops G hs i f)).isSome = true) :
    frameOf (runB E.P E.N ops G hs i f) = some (nfB E ops G hs i f) := by
  unfold nfB
  cases e : frameOf (runB E.P E.N ops G hs i f) with
  | none => rw [e] at h; cases h
  | some g => rfl
theorem bx {E : Env} {ops : Array Oper} {k : List Item} {w : World} {f : Nat → Value} (i : Nat) (hs : List Hint) {G : List Grp} (hG : Grps w G) (bs : List (Int × Nat)) (hB : Bnds bs)
    (h : GoO E ops (i + hs.length) k (nfB E ops G hs i f) w) (hr : (frameOf (runB E.P E.N ops G hs i f)).isSome = true := by kernel_rfl)
    (ha : addrsOf (runB E.P E.N ops G hs i f) true = addrsOf (runB E.P E.N ops G hs i f) false := by kernel_rfl)
    (hb : bndsOf (runB E.P E.N ops G hs i f) = bs := by kernel_rfl) : GoO E ops i k f w := by
  refine Rd.go (n := hs.length + 0) (rd_batchF i G hs _ bs hG hB (nfB_some hr) ha hb ?_)
  simpa [Rd] using h
theorem bg {E : Env} {ops : Array Oper} {k : List Item} {w : World} {f : Nat → Value} (i : Nat) (hs : List Hint) {G : List Grp} (hG : Grps w G)
    (h : GoO E ops (i + hs.length) k (nfB E ops G hs i f) w) (hr : (frameOf (runB E.P E.N ops G hs i f)).isSome = true := by kernel_rfl)
    (ha : addrsOf (runB E.P E.N ops G hs i f) true = addrsOf (runB E.P E.N ops G hs i f) false := by kernel_rfl)
    (hb : bndsOf (runB E.P E.N ops G hs i f) = [] := by kernel_rfl) : GoO E ops i k f w := bx i hs hG [] trivial h hr ha hb
theorem bp {E : Env} {ops : Array Oper} {k : List Item} {w : World} {f : Nat → Value} (i n : Nat)
    (h : GoO E ops (i + n) k (nfB E ops [] (List.replicate n .p) i f) w) (hr : (frameOf (runB E.P E.N ops [] (List.replicate n .p) i f)).isSome = true := by kernel_rfl)
    (ha : addrsOf (runB E.P E.N ops [] (List.replicate n .p) i f) true = addrsOf (runB E.P E.N ops [] (List.replicate n .p) i f) false := by kernel_rfl)
    (hb : bndsOf (runB E.P E.N ops [] (List.replicate n .p) i f) = [] := by kernel_rfl) : GoO E ops i k f w :=
  bx i _ gO [] trivial (by rw [List.length_replicate]; exact h) hr ha hb
theorem bZ {x : Int} {n : Nat} (h : 0 ≤ x ∧ x < (n : Int)) : Bnds [(x, n)] := ⟨h, trivial⟩
theorem bC {x : Int} {n : Nat} {r : List (Int × Nat)} (h : 0 ≤ x ∧ x < (n : Int)) (hr : Bnds r) : Bnds ((x, n) :: r) := ⟨h, hr⟩
theorem rp {E : Env} {id : Nat} {ops : Array Oper} {k : List Item} {w : World} {f : Nat → Value} (n : Nat)
    (h : Go E k (nfB E ops [] (List.replicate n .p) 0 f) w) (hn : Nat.ble ops.size (0 + n) = true := by kernel_rfl) (hr : (frameOf (runB E.P E.N ops [] (List.replicate n .p) 0 f)).isSome = true := by kernel_rfl)
    (ha : addrsOf (runB E.P E.N ops [] (List.replicate n .p) 0 f) true = addrsOf (runB E.P E.N ops [] (List.replicate n .p) 0 f) false := by kernel_rfl)
    (hb : bndsOf (runB E.P E.N ops [] (List.replicate n .p) 0 f) = [] := by kernel_rfl) : Go E (.code (.region id ops false) :: k) f w :=
  r_in (bp 0 n (r_out hn h) hr ha hb)
theorem rg {E : Env} {id : Nat} {ops : Array Oper} {k : List Item} {w : World} {f : Nat → Value} (hs : List Hint) {G : List Grp} (hG : Grps w G)
    (h : Go E k (nfB E ops G hs 0 f) w) (hn : Nat.ble ops.size (0 + hs.length) = true := by kernel_rfl) (hr : (frameOf (runB E.P E.N ops G hs 0 f)).isSome = true := by kernel_rfl)
    (ha : addrsOf (runB E.P E.N ops G hs 0 f) true = addrsOf (runB E.P E.N ops G hs 0 f) false := by kernel_rfl)
    (hb : bndsOf (runB E.P E.N ops G hs 0 f) = [] := by kernel_rfl) : Go E (.code (.region id ops false) :: k) f w :=
  r_in (bg 0 hs hG (r_out hn h) hr ha hb)
theorem ro {E : Env} {ops : Array Oper} {k : List Item} {f : Nat → Value} {w : World} {i : Nat} (h : Go E k f w) (hi : Nat.ble ops.size i = true := by kernel_rfl) : GoO E ops i k f w := r_out hi h
theorem gt {E : Env} {k : List Item} {f : Nat → Value} {w : World} {c : Operand} {x y : Code} {t : Bool} (ht : t = true) (h : Go E (.code x :: k) f w) (hc : ev E.N f c = .bool t := by kernel_rfl) : Go E (.code (.cond c x y) :: k) f w := go_then' hc ht h
theorem ge {E : Env} {k : List Item} {f : Nat → Value} {w : World} {c : Operand} {x y : Code} {t : Bool} (ht : t = false) (h : Go E (.code y :: k) f w) (hc : ev E.N f c = .bool t := by kernel_rfl) : Go E (.code (.cond c x y) :: k) f w := go_else' hc ht h
theorem gr {E : Env} {k : List Item} {f : Nat → Value} {w : World} {v : Value} {fn : Func} (hf : E.P.funcs[E.fn]? = some fn) (hR : E.R (.returned v) w) (hv : Sem.pureRun E.P (results fn (tm E.N f)) = some v := by kernel_rfl) (h0 : E.plain := by exact ⟨rfl, rfl⟩) : Go E (.code .ret :: k) f w :=
  go_return v hf hv hR h0
def argF (args : Array Value) (i : Nat) : Value := (nth args.toList i).getD undef
theorem cg {P : Program} {g : FuncId} {fn : Func} {c : Code} {args : Array Value} {w : World} {R : Ending → World → Prop} (hf : P.funcs[g]? = some fn)
    (h : ∀ cs, Go ⟨P, g, fn.ntmps, cs, R, [], none⟩ [.code c] (argF args) w) (hb : fn.body = some c := by rfl) (ha : args ++ Array.replicate (fn.ntmps - args.size) undef = tm fn.ntmps (argF args) := by kernel_rfl) : Calls P g args w R :=
  calls_go (argF args) hf hb ha h
theorem at_ {us : List (Nat × Value)} {f : Nat → Value} (hu : us.map (fun p => f p.1) = us.map (·.2) := by kernel_rfl) : f = updL f us := at_slots us hu
theorem Inv.pn {M : Mem} {w : World} {L : List Asrt} (h : Inv M w L) : Inv M w [] := h.pick [] (by simp) rfl
theorem Inv.pk {M : Mem} {w : World} {L L' : List Asrt} (h : Inv M w L) (js : List Nat) (hn : js.Nodup := by decide) (hL : js.map (L[·]?) = L'.map some := by rfl) : Inv M w L' := h.pick js hn hL
theorem oe {E : Env} {ops : Array Oper} {k : List Item} {f : Nat → Value} {w : World} (i : Nat) {o : Oper} (hn : nth ops.toList i = some o) (h : Eff E.P o (ev E.N f) w (fun v w' => GoO E ops (i + 1) k (updO f o.dst v) w'))
    (hw : wants E.N ops f o = true := by kernel_rfl) : GoO E ops i k f w := o_eff i o hn hw h
theorem dx {E : Env} {k : List Item} {f : Nat → Value} {w : World} {M : Mem} {L : List Asrt} {id : Nat} {l : List Oper} (hs : List Hint) {G : List Grp} (hG : Grps w G) (bs : List (Int × Nat)) (hB' : Bnds bs) (hI : Inv M w L)
    (h : ∀ w', Inv M w' L → Go E k (nfB E l.toArray G hs 0 f) w') (hm : E.P.follows .mixedOrders = true := by kernel_rfl) (hB : Region.lexB .any l.toArray = true := by kernel_rfl) (hl : hs.length = l.length := by rfl)
    (hr : (frameOf (runB E.P E.N l.toArray G hs 0 f)).isSome = true := by kernel_rfl)
    (ha : addrsOf (runB E.P E.N l.toArray G hs 0 f) true = addrsOf (runB E.P E.N l.toArray G hs 0 f) false := by kernel_rfl)
    (hb : bndsOf (runB E.P E.N l.toArray G hs 0 f) = bs := by kernel_rfl) (h0 : E.plain := by exact ⟨rfl, rfl⟩) : Go E (.code (.region id l.toArray true) :: k) f w := by
  refine r_still hm hB ?_ h0
  rw [← hl]
  exact rd_batchF (n := 0) 0 G hs _ bs (grps_drew hG) hB' (nfB_some hr) ha hb (h _ hI.drew')
def nfH (E : Env) (ops : Array Oper) (G : List Grp) (hs : List (Nat × Hint)) (l : Array Bool) (f : Nat → Value) : Nat → Value := ((frameOfH (runH E.P E.N ops G hs l f)).getD (f, [])).1
def nlH (E : Env) (ops : Array Oper) (G : List Grp) (hs : List (Nat × Hint)) (l : Array Bool) (f : Nat → Value) : Array Bool := ((frameOfH (runH E.P E.N ops G hs l f)).getD (f, [])).2.toArray
theorem hx {E : Env} {k : List Item} {f : Nat → Value} {w : World} {ops : Array Oper} {S : World → Prop} {n : Nat} {l : Array Bool} (hs : List (Nat × Hint)) {G : List Grp} (hG : ∀ w, S w → Grps w G) (hS : S w) (bs : List (Int × Nat)) (hB : Bnds bs)
    (h : Held E k ops S n (nlH E ops G hs l f) (nfH E ops G hs l f) w) (hs0 : Region.noSelect ops = true := by kernel_rfl)
    (hr : (frameOfH (runH E.P E.N ops G hs l f)).isSome = true := by kernel_rfl) (ha : addrsOfH (runH E.P E.N ops G hs l f) true = addrsOfH (runH E.P E.N ops G hs l f) false := by kernel_rfl)
    (hb : bndsOfH (runH E.P E.N ops G hs l f) = bs := by kernel_rfl) : Held E k ops S (n + hs.length) l f w := by
  unfold nlH nfH at h
  cases e : runH E.P E.N ops G hs l f with
  | none => rw [e] at hr; cases hr
  | some r =>
    obtain ⟨f', l2, oa, ob⟩ := r
    rw [e] at hr ha hb h
    simp only [addrsOfH] at ha
    simp only [bndsOfH] at hb
    subst hb
    refine runH_held hs0 hG hS e ?_ hB ?_
    · simpa using ha
    · simpa [frameOfH] using h
theorem hg {E : Env} {k : List Item} {f : Nat → Value} {w : World} {ops : Array Oper} {S : World → Prop} {n : Nat} {l : Array Bool} (hs : List (Nat × Hint)) {G : List Grp} (hG : ∀ w, S w → Grps w G) (hS : S w)
    (h : Held E k ops S n (nlH E ops G hs l f) (nfH E ops G hs l f) w) (hs0 : Region.noSelect ops = true := by kernel_rfl)
    (hr : (frameOfH (runH E.P E.N ops G hs l f)).isSome = true := by kernel_rfl) (ha : addrsOfH (runH E.P E.N ops G hs l f) true = addrsOfH (runH E.P E.N ops G hs l f) false := by kernel_rfl)
    (hb : bndsOfH (runH E.P E.N ops G hs l f) = [] := by kernel_rfl) : Held E k ops S (n + hs.length) l f w := hx hs hG hS [] trivial h hs0 hr ha hb
theorem ho {E : Env} {k : List Item} {f : Nat → Value} {w : World} {ops : Array Oper} {S : World → Prop} {n : Nat} {l : Array Bool} (i : Nat) {o : Oper} (hn : nth ops.toList i = some o) 
    (h : Eff E.P o (ev E.N f) w (fun v w' => S w' ∧ Held E k ops S n (l.setIfInBounds i true) (updO f o.dst v) w')) (hr : Region.ready .any ops l = [i] := by kernel_rfl) (hw : wants E.N ops f o = true := by kernel_rfl) : Held E k ops S (n + 1) l f w := held_one i o hn hr hw h
theorem hd {E : Env} {k : List Item} {f : Nat → Value} {w : World} {ops : Array Oper} {S : World → Prop} {n : Nat} {l : Array Bool} (h : Go E k f w) (hr : Region.ready .any ops l = [] := by kernel_rfl) : Held E k ops S n l f w := held_done hr h
theorem ec {P : Program} {o : Oper} {ev_ : Operand → Value} {w : World} {K : Value → World → Prop} {R : Ending → World → Prop} {c : Operand} {xs : Array Operand} {ts : Array TypeId} {g : FuncId} {args : Array Value}
    (hent : Sem.pureRun P (callFunc g args) = some (.enter g args)) (hcall : Calls P g args w R) (h : ∀ e w', R e w' → ∃ v, e = .returned v ∧ K v w')
    (hop : o.op = .call { callee := .value c, args := xs, argTypes := ts } := by rfl) (hc : ev_ c = .func (.func g) #[] #[] := by kernel_rfl) (ha : xs.map (ev_) = args := by kernel_rfl) : Eff P o ev_ w K :=
  e_callf c xs ts g #[] #[] args args hop hc ha (by simp) hent hcall h
end Go.Proofs.YtnlkggppokcmfaaE
