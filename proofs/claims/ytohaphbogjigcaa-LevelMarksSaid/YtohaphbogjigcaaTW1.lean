/- The walks, part 1: each call computes its plain function. -/
import Derived.Test.YtohaphbogjigcaaTD
import Derived.Test.YtohaphbogjigcaaProg
namespace Go.Proofs.YtohaphbogjigcaaT
open Go Go.Proofs Go.Proofs.YtohaphbogjigcaaE
set_option linter.unusedVariables false
set_option linter.unusedSimpArgs false
set_option maxHeartbeats 0
set_option maxRecDepth 4096
/-! ### level.each -/
theorem enter21 (a : Array Value) : Sem.pureRun Try.prog (callFunc 21 a) = some (.enter 21 a) := by kernel_rfl
theorem level_each_calls {σ : Type} (l : Nat) (B : σ → Asrt) (Y : σ → (Int × ByteArray) → Option (Bool × σ)) (s0 : σ)  (M : Mem) (w : World) (hI : Inv M w [B s0]) (hY : ∀ (s : σ) (a : Int × ByteArray) (x : Bool × σ) (w : World) (L : List Asrt), Y s a = some x → Inv M w (B s :: L) → YieldC Try.prog l #[.int .i64 a.1, .string a.2] w (fun v w' => v = .bool x.1 ∧ Inv M w' (B x.2 :: L))) (r : σ) (H : level_each Y s0 = some r) :
    Calls Try.prog 21 #[.func (.yield l) #[] #[]] w fun e w' => e = .returned (.tuple #[]) ∧ Inv M w' [B r] := by
  refine calls_go (updL (fun _ => undef) [(0, .func (.yield l) #[] #[])]) Try.func21 rfl (by kernel_rfl) ?_
  intro cs
  unfold level_each at H
  refine go_seq ?_
  refine r_in ?_
  refine o_batch 0 [] [.p, .p] [(2, .int .i64 1), (3, .int .i64 0)] [] trivial trivial (by kernel_rfl) (by kernel_rfl) (by kernel_rfl) ?_
  refine r_out (by kernel_rfl) ?_
  refine go_seq ?_
  refine r_in ?_
  refine o_batch 0 [] [.p] [(4, .int .i64 0)] [] trivial trivial (by kernel_rfl) (by kernel_rfl) (by kernel_rfl) ?_
  refine r_out (by kernel_rfl) ?_
  refine go_block ?_
  refine go_loop ?_
  refine go_seq ?_
  refine go_seq ?_
  refine r_in ?_
  refine o_batch 0 [] [.p, .p] [(5, .int .i64 0), (6, .bool true)] [] trivial trivial (by kernel_rfl) (by kernel_rfl) (by kernel_rfl) ?_
  refine r_out (by kernel_rfl) ?_
  refine go_then (by kernel_rfl) ?_
  refine go_skip ?_
  refine go_seq ?_
  refine go_block ?_
  refine go_seq ?_
  refine go_seq ?_
  refine r_in ?_
  refine o_batch 0 [] [.p, .p, .p, .p, .x, .p, .p] [(9, .int .i64 0), (10, .bool true), (11, .bool true), (12, .int .i64 0), (13, .int .u8 114), (14, .bool true), (15, .bool true)] [(0, (⟨#[114, 101, 97, 100, 45, 99, 111, 109, 109, 105, 116, 116, 101, 100, 32, 99, 117, 114, 115, 111, 114, 45, 115, 116, 97, 98, 108, 101, 32, 114, 101, 97, 100, 45, 97, 116, 111, 109, 105, 99, 32, 99, 97, 117, 115, 97, 108, 32, 112, 114, 101, 102, 105, 120, 32, 115, 110, 97, 112, 115, 104, 111, 116, 32, 115, 101, 114, 105, 97, 108, 105, 122, 97, 98, 108, 101, 32, 115, 116, 114, 105, 99, 116]⟩ : ByteArray).size)] trivial ⟨(by decide), trivial⟩ (by kernel_rfl) (by kernel_rfl) (by kernel_rfl) ?_
  refine r_out (by kernel_rfl) ?_
  refine go_then (by kernel_rfl) ?_
  refine go_exit rfl ?_
  refine r_in ?_
  refine o_batch 0 [] [.p, .p, .p] [(7, .int .i64 0), (8, .int .i64 1), (4, .int .i64 1)] [] trivial trivial (by kernel_rfl) (by kernel_rfl) (by kernel_rfl) ?_
  refine r_out (by kernel_rfl) ?_
  refine go_again ?_
  refine go_gen [(0, .func (.yield l) #[] #[]), (2, .int .i64 1), (3, .int .i64 0), (4, .int .i64 1)] (by kernel_rfl) ?_
  intro _
  replace hI := hI.pick (L' := [B s0]) [0] (by decide) rfl
  refine go_seq ?_
  refine go_seq ?_
  refine r_in ?_
  refine o_batch 0 [] [.p, .p] [(5, .int .i64 1), (6, .bool true)] [] trivial trivial (by kernel_rfl) (by kernel_rfl) (by kernel_rfl) ?_
  refine r_out (by kernel_rfl) ?_
  refine go_then (by kernel_rfl) ?_
  refine go_skip ?_
  refine go_seq ?_
  refine go_block ?_
  refine go_seq ?_
  refine go_seq ?_
  refine r_in ?_
  refine o_batch 0 [] [.p, .p, .p, .p, .x, .p, .p] [(9, .int .i64 1), (10, .bool true), (11, .bool true), (12, .int .i64 1), (13, .int .u8 101), (14, .bool true), (15, .bool true)] [(1, (⟨#[114, 101, 97, 100, 45, 99, 111, 109, 109, 105, 116, 116, 101, 100, 32, 99, 117, 114, 115, 111, 114, 45, 115, 116, 97, 98, 108, 101, 32, 114, 101, 97, 100, 45, 97, 116, 111, 109, 105, 99, 32, 99, 97, 117, 115, 97, 108, 32, 112, 114, 101, 102, 105, 120, 32, 115, 110, 97, 112, 115, 104, 111, 116, 32, 115, 101, 114, 105, 97, 108, 105, 122, 97, 98, 108, 101, 32, 115, 116, 114, 105, 99, 116]⟩ : ByteArray).size)] trivial ⟨(by decide), trivial⟩ (by kernel_rfl) (by kernel_rfl) (by kernel_rfl) ?_
  refine r_out (by kernel_rfl) ?_
  refine go_then (by kernel_rfl) ?_
  refine go_exit rfl ?_
  refine r_in ?_
  refine o_batch 0 [] [.p, .p, .p] [(7, .int .i64 1), (8, .int .i64 2), (4, .int .i64 2)] [] trivial trivial (by kernel_rfl) (by kernel_rfl) (by kernel_rfl) ?_
  refine r_out (by kernel_rfl) ?_
  refine go_again ?_
  refine go_gen [(0, .func (.yield l) #[] #[]), (2, .int .i64 1), (3, .int .i64 0), (4, .int .i64 2)] (by kernel_rfl) ?_
  intro _
  replace hI := hI.pick (L' := [B s0]) [0] (by decide) rfl
  refine go_seq ?_
  refine go_seq ?_
  refine r_in ?_
  refine o_batch 0 [] [.p, .p] [(5, .int .i64 2), (6, .bool true)] [] trivial trivial (by kernel_rfl) (by kernel_rfl) (by kernel_rfl) ?_
  refine r_out (by kernel_rfl) ?_
  refine go_then (by kernel_rfl) ?_
  refine go_skip ?_
  refine go_seq ?_
  refine go_block ?_
  refine go_seq ?_
  refine go_seq ?_
  refine r_in ?_
  refine o_batch 0 [] [.p, .p, .p, .p, .x, .p, .p] [(9, .int .i64 2), (10, .bool true), (11, .bool true), (12, .int .i64 2), (13, .int .u8 97), (14, .bool true), (15, .bool true)] [(2, (⟨#[114, 101, 97, 100, 45, 99, 111, 109, 109, 105, 116, 116, 101, 100, 32, 99, 117, 114, 115, 111, 114, 45, 115, 116, 97, 98, 108, 101, 32, 114, 101, 97, 100, 45, 97, 116, 111, 109, 105, 99, 32, 99, 97, 117, 115, 97, 108, 32, 112, 114, 101, 102, 105, 120, 32, 115, 110, 97, 112, 115, 104, 111, 116, 32, 115, 101, 114, 105, 97, 108, 105, 122, 97, 98, 108, 101, 32, 115, 116, 114, 105, 99, 116]⟩ : ByteArray).size)] trivial ⟨(by decide), trivial⟩ (by kernel_rfl) (by kernel_rfl) (by kernel_rfl) ?_
  refine r_out (by kernel_rfl) ?_
  refine go_then (by kernel_rfl) ?_
  refine go_exit rfl ?_
  refine r_in ?_
  refine o_batch 0 [] [.p, .p, .p] [(7, .int .i64 2), (8, .int .i64 3), (4, .int .i64 3)] [] trivial trivial (by kernel_rfl) (by kernel_rfl) (by kernel_rfl) ?_
  refine r_out (by kernel_rfl) ?_
  refine go_again ?_
  refine go_gen [(0, .func (.yield l) #[] #[]), (2, .int .i64 1), (3, .int .i64 0), (4, .int .i64 3)] (by kernel_rfl) ?_
  intro _
  replace hI := hI.pick (L' := [B s0]) [0] (by decide) rfl
  refine go_seq ?_
  refine go_seq ?_
  refine r_in ?_
  refine o_batch 0 [] [.p, .p] [(5, .int .i64 3), (6, .bool true)] [] trivial trivial (by kernel_rfl) (by kernel_rfl) (by kernel_rfl) ?_
  refine r_out (by kernel_rfl) ?_
  refine go_then (by kernel_rfl) ?_
  refine go_skip ?_
  refine go_seq ?_
  refine go_block ?_
  refine go_seq ?_
  refine go_seq ?_
  refine r_in ?_
  refine o_batch 0 [] [.p, .p, .p, .p, .x, .p, .p] [(9, .int .i64 3), (10, .bool true), (11, .bool true), (12, .int .i64 3), (13, .int .u8 100), (14, .bool true), (15, .bool true)] [(3, (⟨#[114, 101, 97, 100, 45, 99, 111, 109, 109, 105, 116, 116, 101, 100, 32, 99, 117, 114, 115, 111, 114, 45, 115, 116, 97, 98, 108, 101, 32, 114, 101, 97, 100, 45, 97, 116, 111, 109, 105, 99, 32, 99, 97, 117, 115, 97, 108, 32, 112, 114, 101, 102, 105, 120, 32, 115, 110, 97, 112, 115, 104, 111, 116, 32, 115, 101, 114, 105, 97, 108, 105, 122, 97, 98, 108, 101, 32, 115, 116, 114, 105, 99, 116]⟩ : ByteArray).size)] trivial ⟨(by decide), trivial⟩ (by kernel_rfl) (by kernel_rfl) (by kernel_rfl) ?_
  refine r_out (by kernel_rfl) ?_
  refine go_then (by kernel_rfl) ?_
  refine go_exit rfl ?_
  refine r_in ?_
  refine o_batch 0 [] [.p, .p, .p] [(7, .int .i64 3), (8, .int .i64 4), (4, .int .i64 4)] [] trivial trivial (by kernel_rfl) (by kernel_rfl) (by kernel_rfl) ?_
  refine r_out (by kernel_rfl) ?_
  refine go_again ?_
  refine go_gen [(0, .func (.yield l) #[] #[]), (2, .int .i64 1), (3, .int .i64 0), (4, .int .i64 4)] (by kernel_rfl) ?_
  intro _
  replace hI := hI.pick (L' := [B s0]) [0] (by decide) rfl
  refine go_seq ?_
  refine go_seq ?_
  refine r_in ?_
  refine o_batch 0 [] [.p, .p] [(5, .int .i64 4), (6, .bool true)] [] trivial trivial (by kernel_rfl) (by kernel_rfl) (by kernel_rfl) ?_
  refine r_out (by kernel_rfl) ?_
  refine go_then (by kernel_rfl) ?_
  refine go_skip ?_
  refine go_seq ?_
  refine go_block ?_
  refine go_seq ?_
  refine go_seq ?_
  refine r_in ?_
  refine o_batch 0 [] [.p, .p, .p, .p, .x, .p, .p] [(9, .int .i64 4), (10, .bool true), (11, .bool true), (12, .int .i64 4), (13, .int .u8 45), (14, .bool true), (15, .bool true)] [(4, (⟨#[114, 101, 97, 100, 45, 99, 111, 109, 109, 105, 116, 116, 101, 100, 32, 99, 117, 114, 115, 111, 114, 45, 115, 116, 97, 98, 108, 101, 32, 114, 101, 97, 100, 45, 97, 116, 111, 109, 105, 99, 32, 99, 97, 117, 115, 97, 108, 32, 112, 114, 101, 102, 105, 120, 32, 115, 110, 97, 112, 115, 104, 111, 116, 32, 115, 101, 114, 105, 97, 108, 105, 122, 97, 98, 108, 101, 32, 115, 116, 114, 105, 99, 116]⟩ : ByteArray).size)] trivial ⟨(by decide), trivial⟩ (by kernel_rfl) (by kernel_rfl) (by kernel_rfl) ?_
  refine r_out (by kernel_rfl) ?_
  refine go_then (by kernel_rfl) ?_
  refine go_exit rfl ?_
  refine r_in ?_
  refine o_batch 0 [] [.p, .p, .p] [(7, .int .i64 4), (8, .int .i64 5), (4, .int .i64 5)] [] trivial trivial (by kernel_rfl) (by kernel_rfl) (by kernel_rfl) ?_
  refine r_out (by kernel_rfl) ?_
  refine go_again ?_
  refine go_gen [(0, .func (.yield l) #[] #[]), (2, .int .i64 1), (3, .int .i64 0), (4, .int .i64 5)] (by kernel_rfl) ?_
  intro _
  replace hI := hI.pick (L' := [B s0]) [0] (by decide) rfl
  refine go_seq ?_
  refine go_seq ?_
  refine r_in ?_
  refine o_batch 0 [] [.p, .p] [(5, .int .i64 5), (6, .bool true)] [] trivial trivial (by kernel_rfl) (by kernel_rfl) (by kernel_rfl) ?_
  refine r_out (by kernel_rfl) ?_
  refine go_then (by kernel_rfl) ?_
  refine go_skip ?_
  refine go_seq ?_
  refine go_block ?_
  refine go_seq ?_
  refine go_seq ?_
  refine r_in ?_
  refine o_batch 0 [] [.p, .p, .p, .p, .x, .p, .p] [(9, .int .i64 5), (10, .bool true), (11, .bool true), (12, .int .i64 5), (13, .int .u8 99), (14, .bool true), (15, .bool true)] [(5, (⟨#[114, 101, 97, 100, 45, 99, 111, 109, 109, 105, 116, 116, 101, 100, 32, 99, 117, 114, 115, 111, 114, 45, 115, 116, 97, 98, 108, 101, 32, 114, 101, 97, 100, 45, 97, 116, 111, 109, 105, 99, 32, 99, 97, 117, 115, 97, 108, 32, 112, 114, 101, 102, 105, 120, 32, 115, 110, 97, 112, 115, 104, 111, 116, 32, 115, 101, 114, 105, 97, 108, 105, 122, 97, 98, 108, 101, 32, 115, 116, 114, 105, 99, 116]⟩ : ByteArray).size)] trivial ⟨(by decide), trivial⟩ (by kernel_rfl) (by kernel_rfl) (by kernel_rfl) ?_
  refine r_out (by kernel_rfl) ?_
  refine go_then (by kernel_rfl) ?_
  refine go_exit rfl ?_
  refine r_in ?_
  refine o_batch 0 [] [.p, .p, .p] [(7, .int .i64 5), (8, .int .i64 6), (4, .int .i64 6)] [] trivial trivial (by kernel_rfl) (by kernel_rfl) (by kernel_rfl) ?_
  refine r_out (by kernel_rfl) ?_
  refine go_again ?_
  refine go_gen [(0, .func (.yield l) #[] #[]), (2, .int .i64 1), (3, .int .i64 0), (4, .int .i64 6)] (by kernel_rfl) ?_
  intro _
  replace hI := hI.pick (L' := [B s0]) [0] (by decide) rfl
  refine go_seq ?_
  refine go_seq ?_
  refine r_in ?_
  refine o_batch 0 [] [.p, .p] [(5, .int .i64 6), (6, .bool true)] [] trivial trivial (by kernel_rfl) (by kernel_rfl) (by kernel_rfl) ?_
  refine r_out (by kernel_rfl) ?_
  refine go_then (by kernel_rfl) ?_
  refine go_skip ?_
  refine go_seq ?_
  refine go_block ?_
  refine go_seq ?_
  refine go_seq ?_
  refine r_in ?_
  refine o_batch 0 [] [.p, .p, .p, .p, .x, .p, .p] [(9, .int .i64 6), (10, .bool true), (11, .bool true), (12, .int .i64 6), (13, .int .u8 111), (14, .bool true), (15, .bool true)] [(6, (⟨#[114, 101, 97, 100, 45, 99, 111, 109, 109, 105, 116, 116, 101, 100, 32, 99, 117, 114, 115, 111, 114, 45, 115, 116, 97, 98, 108, 101, 32, 114, 101, 97, 100, 45, 97, 116, 111, 109, 105, 99, 32, 99, 97, 117, 115, 97, 108, 32, 112, 114, 101, 102, 105, 120, 32, 115, 110, 97, 112, 115, 104, 111, 116, 32, 115, 101, 114, 105, 97, 108, 105, 122, 97, 98, 108, 101, 32, 115, 116, 114, 105, 99, 116]⟩ : ByteArray).size)] trivial ⟨(by decide), trivial⟩ (by kernel_rfl) (by kernel_rfl) (by kernel_rfl) ?_
  refine r_out (by kernel_rfl) ?_
  refine go_then (by kernel_rfl) ?_
  refine go_exit rfl ?_
  refine r_in ?_
  refine o_batch 0 [] [.p, .p, .p] [(7, .int .i64 6), (8, .int .i64 7), (4, .int .i64 7)] [] trivial trivial (by kernel_rfl) (by kernel_rfl) (by kernel_rfl) ?_
  refine r_out (by kernel_rfl) ?_
  refine go_again ?_
  refine go_gen [(0, .func (.yield l) #[] #[]), (2, .int .i64 1), (3, .int .i64 0), (4, .int .i64 7)] (by kernel_rfl) ?_
  intro _
  replace hI := hI.pick (L' := [B s0]) [0] (by decide) rfl
  refine go_seq ?_
  refine go_seq ?_
  refine r_in ?_
  refine o_batch 0 [] [.p, .p] [(5, .int .i64 7), (6, .bool true)] [] trivial trivial (by kernel_rfl) (by kernel_rfl) (by kernel_rfl) ?_
  refine r_out (by kernel_rfl) ?_
  refine go_then (by kernel_rfl) ?_
  refine go_skip ?_
  refine go_seq ?_
  refine go_block ?_
  refine go_seq ?_
  refine go_seq ?_
  refine r_in ?_
  refine o_batch 0 [] [.p, .p, .p, .p, .x, .p, .p] [(9, .int .i64 7), (10, .bool true), (11, .bool true), (12, .int .i64 7), (13, .int .u8 109), (14, .bool true), (15, .bool true)] [(7, (⟨#[114, 101, 97, 100, 45, 99, 111, 109, 109, 105, 116, 116, 101, 100, 32, 99, 117, 114, 115, 111, 114, 45, 115, 116, 97, 98, 108, 101, 32, 114, 101, 97, 100, 45, 97, 116, 111, 109, 105, 99, 32, 99, 97, 117, 115, 97, 108, 32, 112, 114, 101, 102, 105, 120, 32, 115, 110, 97, 112, 115, 104, 111, 116, 32, 115, 101, 114, 105, 97, 108, 105, 122, 97, 98, 108, 101, 32, 115, 116, 114, 105, 99, 116]⟩ : ByteArray).size)] trivial ⟨(by decide), trivial⟩ (by kernel_rfl) (by kernel_rfl) (by kernel_rfl) ?_
  refine r_out (by kernel_rfl) ?_
  refine go_then (by kernel_rfl) ?_
  refine go_exit rfl ?_
  refine r_in ?_
  refine o_batch 0 [] [.p, .p, .p] [(7, .int .i64 7), (8, .int .i64 8), (4, .int .i64 8)] [] trivial trivial (by kernel_rfl) (by kernel_rfl) (by kernel_rfl) ?_
  refine r_out (by kernel_rfl) ?_
  refine go_again ?_
  refine go_gen [(0, .func (.yield l) #[] #[]), (2, .int .i64 1), (3, .int .i64 0), (4, .int .i64 8)] (by kernel_rfl) ?_
  intro _
  replace hI := hI.pick (L' := [B s0]) [0] (by decide) rfl
  refine go_seq ?_
  refine go_seq ?_
  refine r_in ?_
  refine o_batch 0 [] [.p, .p] [(5, .int .i64 8), (6, .bool true)] [] trivial trivial (by kernel_rfl) (by kernel_rfl) (by kernel_rfl) ?_
  refine r_out (by kernel_rfl) ?_
  refine go_then (by kernel_rfl) ?_
  refine go_skip ?_
  refine go_seq ?_
  refine go_block ?_
  refine go_seq ?_
  refine go_seq ?_
  refine r_in ?_
  refine o_batch 0 [] [.p, .p, .p, .p, .x, .p, .p] [(9, .int .i64 8), (10, .bool true), (11, .bool true), (12, .int .i64 8), (13, .int .u8 109), (14, .bool true), (15, .bool true)] [(8, (⟨#[114, 101, 97, 100, 45, 99, 111, 109, 109, 105, 116, 116, 101, 100, 32, 99, 117, 114, 115, 111, 114, 45, 115, 116, 97, 98, 108, 101, 32, 114, 101, 97, 100, 45, 97, 116, 111, 109, 105, 99, 32, 99, 97, 117, 115, 97, 108, 32, 112, 114, 101, 102, 105, 120, 32, 115, 110, 97, 112, 115, 104, 111, 116, 32, 115, 101, 114, 105, 97, 108, 105, 122, 97, 98, 108, 101, 32, 115, 116, 114, 105, 99, 116]⟩ : ByteArray).size)] trivial ⟨(by decide), trivial⟩ (by kernel_rfl) (by kernel_rfl) (by kernel_rfl) ?_
  refine r_out (by kernel_rfl) ?_
  refine go_then (by kernel_rfl) ?_
  refine go_exit rfl ?_
  refine r_in ?_
  refine o_batch 0 [] [.p, .p, .p] [(7, .int .i64 8), (8, .int .i64 9), (4, .int .i64 9)] [] trivial trivial (by kernel_rfl) (by kernel_rfl) (by kernel_rfl) ?_
  refine r_out (by kernel_rfl) ?_
  refine go_again ?_
  refine go_gen [(0, .func (.yield l) #[] #[]), (2, .int .i64 1), (3, .int .i64 0), (4, .int .i64 9)] (by kernel_rfl) ?_
  intro _
  replace hI := hI.pick (L' := [B s0]) [0] (by decide) rfl
  refine go_seq ?_
  refine go_seq ?_
  refine r_in ?_
  refine o_batch 0 [] [.p, .p] [(5, .int .i64 9), (6, .bool true)] [] trivial trivial (by kernel_rfl) (by kernel_rfl) (by kernel_rfl) ?_
  refine r_out (by kernel_rfl) ?_
  refine go_then (by kernel_rfl) ?_
  refine go_skip ?_
  refine go_seq ?_
  refine go_block ?_
  refine go_seq ?_
  refine go_seq ?_
  refine r_in ?_
  refine o_batch 0 [] [.p, .p, .p, .p, .x, .p, .p] [(9, .int .i64 9), (10, .bool true), (11, .bool true), (12, .int .i64 9), (13, .int .u8 105), (14, .bool true), (15, .bool true)] [(9, (⟨#[114, 101, 97, 100, 45, 99, 111, 109, 109, 105, 116, 116, 101, 100, 32, 99, 117, 114, 115, 111, 114, 45, 115, 116, 97, 98, 108, 101, 32, 114, 101, 97, 100, 45, 97, 116, 111, 109, 105, 99, 32, 99, 97, 117, 115, 97, 108, 32, 112, 114, 101, 102, 105, 120, 32, 115, 110, 97, 112, 115, 104, 111, 116, 32, 115, 101, 114, 105, 97, 108, 105, 122, 97, 98, 108, 101, 32, 115, 116, 114, 105, 99, 116]⟩ : ByteArray).size)] trivial ⟨(by decide), trivial⟩ (by kernel_rfl) (by kernel_rfl) (by kernel_rfl) ?_
  refine r_out (by kernel_rfl) ?_
  refine go_then (by kernel_rfl) ?_
  refine go_exit rfl ?_
  refine r_in ?_
  refine o_batch 0 [] [.p, .p, .p] [(7, .int .i64 9), (8, .int .i64 10), (4, .int .i64 10)] [] trivial trivial (by kernel_rfl) (by kernel_rfl) (by kernel_rfl) ?_
  refine r_out (by kernel_rfl) ?_
  refine go_again ?_
  refine go_gen [(0, .func (.yield l) #[] #[]), (2, .int .i64 1), (3, .int .i64 0), (4, .int .i64 10)] (by kernel_rfl) ?_
  intro _
  replace hI := hI.pick (L' := [B s0]) [0] (by decide) rfl
  refine go_seq ?_
  refine go_seq ?_
  refine r_in ?_
  refine o_batch 0 [] [.p, .p] [(5, .int .i64 10), (6, .bool true)] [] trivial trivial (by kernel_rfl) (by kernel_rfl) (by kernel_rfl) ?_
  refine r_out (by kernel_rfl) ?_
  refine go_then (by kernel_rfl) ?_
  refine go_skip ?_
  refine go_seq ?_
  refine go_block ?_
  refine go_seq ?_
  refine go_seq ?_
  refine r_in ?_
  refine o_batch 0 [] [.p, .p, .p, .p, .x, .p, .p] [(9, .int .i64 10), (10, .bool true), (11, .bool true), (12, .int .i64 10), (13, .int .u8 116), (14, .bool true), (15, .bool true)] [(10, (⟨#[114, 101, 97, 100, 45, 99, 111, 109, 109, 105, 116, 116, 101, 100, 32, 99, 117, 114, 115, 111, 114, 45, 115, 116, 97, 98, 108, 101, 32, 114, 101, 97, 100, 45, 97, 116, 111, 109, 105, 99, 32, 99, 97, 117, 115, 97, 108, 32, 112, 114, 101, 102, 105, 120, 32, 115, 110, 97, 112, 115, 104, 111, 116, 32, 115, 101, 114, 105, 97, 108, 105, 122, 97, 98, 108, 101, 32, 115, 116, 114, 105, 99, 116]⟩ : ByteArray).size)] trivial ⟨(by decide), trivial⟩ (by kernel_rfl) (by kernel_rfl) (by kernel_rfl) ?_
  refine r_out (by kernel_rfl) ?_
  refine go_then (by kernel_rfl) ?_
  refine go_exit rfl ?_
  refine r_in ?_
  refine o_batch 0 [] [.p, .p, .p] [(7, .int .i64 10), (8, .int .i64 11), (4, .int .i64 11)] [] trivial trivial (by kernel_rfl) (by kernel_rfl) (by kernel_rfl) ?_
  refine r_out (by kernel_rfl) ?_
  refine go_again ?_
  refine go_gen [(0, .func (.yield l) #[] #[]), (2, .int .i64 1), (3, .int .i64 0), (4, .int .i64 11)] (by kernel_rfl) ?_
  intro _
  replace hI := hI.pick (L' := [B s0]) [0] (by decide) rfl
  refine go_seq ?_
  refine go_seq ?_
  refine r_in ?_
  refine o_batch 0 [] [.p, .p] [(5, .int .i64 11), (6, .bool true)] [] trivial trivial (by kernel_rfl) (by kernel_rfl) (by kernel_rfl) ?_
  refine r_out (by kernel_rfl) ?_
  refine go_then (by kernel_rfl) ?_
  refine go_skip ?_
  refine go_seq ?_
  refine go_block ?_
  refine go_seq ?_
  refine go_seq ?_
  refine r_in ?_
  refine o_batch 0 [] [.p, .p, .p, .p, .x, .p, .p] [(9, .int .i64 11), (10, .bool true), (11, .bool true), (12, .int .i64 11), (13, .int .u8 116), (14, .bool true), (15, .bool true)] [(11, (⟨#[114, 101, 97, 100, 45, 99, 111, 109, 109, 105, 116, 116, 101, 100, 32, 99, 117, 114, 115, 111, 114, 45, 115, 116, 97, 98, 108, 101, 32, 114, 101, 97, 100, 45, 97, 116, 111, 109, 105, 99, 32, 99, 97, 117, 115, 97, 108, 32, 112, 114, 101, 102, 105, 120, 32, 115, 110, 97, 112, 115, 104, 111, 116, 32, 115, 101, 114, 105, 97, 108, 105, 122, 97, 98, 108, 101, 32, 115, 116, 114, 105, 99, 116]⟩ : ByteArray).size)] trivial ⟨(by decide), trivial⟩ (by kernel_rfl) (by kernel_rfl) (by kernel_rfl) ?_
  refine r_out (by kernel_rfl) ?_
  refine go_then (by kernel_rfl) ?_
  refine go_exit rfl ?_
  refine r_in ?_
  refine o_batch 0 [] [.p, .p, .p] [(7, .int .i64 11), (8, .int .i64 12), (4, .int .i64 12)] [] trivial trivial (by kernel_rfl) (by kernel_rfl) (by kernel_rfl) ?_
  refine r_out (by kernel_rfl) ?_
  refine go_again ?_
  refine go_gen [(0, .func (.yield l) #[] #[]), (2, .int .i64 1), (3, .int .i64 0), (4, .int .i64 12)] (by kernel_rfl) ?_
  intro _
  replace hI := hI.pick (L' := [B s0]) [0] (by decide) rfl
  refine go_seq ?_
  refine go_seq ?_
  refine r_in ?_
  refine o_batch 0 [] [.p, .p] [(5, .int .i64 12), (6, .bool true)] [] trivial trivial (by kernel_rfl) (by kernel_rfl) (by kernel_rfl) ?_
  refine r_out (by kernel_rfl) ?_
  refine go_then (by kernel_rfl) ?_
  refine go_skip ?_
  refine go_seq ?_
  refine go_block ?_
  refine go_seq ?_
  refine go_seq ?_
  refine r_in ?_
  refine o_batch 0 [] [.p, .p, .p, .p, .x, .p, .p] [(9, .int .i64 12), (10, .bool true), (11, .bool true), (12, .int .i64 12), (13, .int .u8 101), (14, .bool true), (15, .bool true)] [(12, (⟨#[114, 101, 97, 100, 45, 99, 111, 109, 109, 105, 116, 116, 101, 100, 32, 99, 117, 114, 115, 111, 114, 45, 115, 116, 97, 98, 108, 101, 32, 114, 101, 97, 100, 45, 97, 116, 111, 109, 105, 99, 32, 99, 97, 117, 115, 97, 108, 32, 112, 114, 101, 102, 105, 120, 32, 115, 110, 97, 112, 115, 104, 111, 116, 32, 115, 101, 114, 105, 97, 108, 105, 122, 97, 98, 108, 101, 32, 115, 116, 114, 105, 99, 116]⟩ : ByteArray).size)] trivial ⟨(by decide), trivial⟩ (by kernel_rfl) (by kernel_rfl) (by kernel_rfl) ?_
  refine r_out (by kernel_rfl) ?_
  refine go_then (by kernel_rfl) ?_
  refine go_exit rfl ?_
  refine r_in ?_
  refine o_batch 0 [] [.p, .p, .p] [(7, .int .i64 12), (8, .int .i64 13), (4, .int .i64 13)] [] trivial trivial (by kernel_rfl) (by kernel_rfl) (by kernel_rfl) ?_
  refine r_out (by kernel_rfl) ?_
  refine go_again ?_
  refine go_gen [(0, .func (.yield l) #[] #[]), (2, .int .i64 1), (3, .int .i64 0), (4, .int .i64 13)] (by kernel_rfl) ?_
  intro _
  replace hI := hI.pick (L' := [B s0]) [0] (by decide) rfl
  refine go_seq ?_
  refine go_seq ?_
  refine r_in ?_
  refine o_batch 0 [] [.p, .p] [(5, .int .i64 13), (6, .bool true)] [] trivial trivial (by kernel_rfl) (by kernel_rfl) (by kernel_rfl) ?_
  refine r_out (by kernel_rfl) ?_
  refine go_then (by kernel_rfl) ?_
  refine go_skip ?_
  refine go_seq ?_
  refine go_block ?_
  refine go_seq ?_
  refine go_seq ?_
  refine r_in ?_
  refine o_batch 0 [] [.p, .p, .p, .p, .x, .p, .p] [(9, .int .i64 13), (10, .bool true), (11, .bool true), (12, .int .i64 13), (13, .int .u8 100), (14, .bool true), (15, .bool true)] [(13, (⟨#[114, 101, 97, 100, 45, 99, 111, 109, 109, 105, 116, 116, 101, 100, 32, 99, 117, 114, 115, 111, 114, 45, 115, 116, 97, 98, 108, 101, 32, 114, 101, 97, 100, 45, 97, 116, 111, 109, 105, 99, 32, 99, 97, 117, 115, 97, 108, 32, 112, 114, 101, 102, 105, 120, 32, 115, 110, 97, 112, 115, 104, 111, 116, 32, 115, 101, 114, 105, 97, 108, 105, 122, 97, 98, 108, 101, 32, 115, 116, 114, 105, 99, 116]⟩ : ByteArray).size)] trivial ⟨(by decide), trivial⟩ (by kernel_rfl) (by kernel_rfl) (by kernel_rfl) ?_
  refine r_out (by kernel_rfl) ?_
  refine go_then (by kernel_rfl) ?_
  refine go_exit rfl ?_
  refine r_in ?_
  refine o_batch 0 [] [.p, .p, .p] [(7, .int .i64 13), (8, .int .i64 14), (4, .int .i64 14)] [] trivial trivial (by kernel_rfl) (by kernel_rfl) (by kernel_rfl) ?_
  refine r_out (by kernel_rfl) ?_
  refine go_again ?_
  refine go_gen [(0, .func (.yield l) #[] #[]), (2, .int .i64 1), (3, .int .i64 0), (4, .int .i64 14)] (by kernel_rfl) ?_
  intro _
  replace hI := hI.pick (L' := [B s0]) [0] (by decide) rfl
  refine go_seq ?_
  refine go_seq ?_
  refine r_in ?_
  refine o_batch 0 [] [.p, .p] [(5, .int .i64 14), (6, .bool true)] [] trivial trivial (by kernel_rfl) (by kernel_rfl) (by kernel_rfl) ?_
  refine r_out (by kernel_rfl) ?_
  refine go_then (by kernel_rfl) ?_
  refine go_skip ?_
  refine go_seq ?_
  refine go_block ?_
  refine go_seq ?_
  refine go_seq ?_
  refine r_in ?_
  refine o_batch 0 [] [.p, .p, .p, .p, .x, .p, .p] [(9, .int .i64 14), (10, .bool true), (11, .bool true), (12, .int .i64 14), (13, .int .u8 32), (14, .bool false), (15, .bool false)] [(14, (⟨#[114, 101, 97, 100, 45, 99, 111, 109, 109, 105, 116, 116, 101, 100, 32, 99, 117, 114, 115, 111, 114, 45, 115, 116, 97, 98, 108, 101, 32, 114, 101, 97, 100, 45, 97, 116, 111, 109, 105, 99, 32, 99, 97, 117, 115, 97, 108, 32, 112, 114, 101, 102, 105, 120, 32, 115, 110, 97, 112, 115, 104, 111, 116, 32, 115, 101, 114, 105, 97, 108, 105, 122, 97, 98, 108, 101, 32, 115, 116, 114, 105, 99, 116]⟩ : ByteArray).size)] trivial ⟨(by decide), trivial⟩ (by kernel_rfl) (by kernel_rfl) (by kernel_rfl) ?_
  refine r_out (by kernel_rfl) ?_
  refine go_else (by kernel_rfl) ?_
  refine go_skip ?_
  refine go_seq ?_
  refine go_seq ?_
  refine r_in ?_
  refine o_batch 0 [] [.p, .p, .p, .p, .x] [(16, .func (.yield l) #[] #[]), (17, .int .i64 1), (18, .int .i64 0), (19, .int .i64 14), (20, .string (⟨#[114, 101, 97, 100, 45, 99, 111, 109, 109, 105, 116, 116, 101, 100]⟩ : ByteArray))] [(0, (14 : Int).toNat + 1), (14, (⟨#[114, 101, 97, 100, 45, 99, 111, 109, 109, 105, 116, 116, 101, 100, 32, 99, 117, 114, 115, 111, 114, 45, 115, 116, 97, 98, 108, 101, 32, 114, 101, 97, 100, 45, 97, 116, 111, 109, 105, 99, 32, 99, 97, 117, 115, 97, 108, 32, 112, 114, 101, 102, 105, 120, 32, 115, 110, 97, 112, 115, 104, 111, 116, 32, 115, 101, 114, 105, 97, 108, 105, 122, 97, 98, 108, 101, 32, 115, 116, 114, 105, 99, 116]⟩ : ByteArray).size + 1)] trivial ⟨(by decide), (by decide), trivial⟩ (by kernel_rfl) (by kernel_rfl) (by kernel_rfl) ?_
  replace H := bind_some H
  obtain ⟨y1, hy2, H⟩ := H
  refine o_yield 5 _ rfl (by kernel_rfl) l _ _ _ _ rfl (by kernel_rfl) (by kernel_rfl) (hY _ _ _ _ _ hy2 hI) ?_
  clear hI
  rintro _ _ ⟨rfl, hI⟩
  refine o_batch 6 [] [.p] [(22, .bool (!y1.1))] [] trivial trivial (by kernel_rfl) (by kernel_rfl) (by kernel_rfl) ?_
  refine r_out (by kernel_rfl) ?_
  replace H := cond_some H
  rcases H with ⟨hc3, H⟩ | ⟨hc3, H⟩
  · refine go_then' (t := !y1.1) (by kernel_rfl) hc3 ?_
    replace H := Option.some.inj H
    subst H
    exact go_return (.tuple #[]) Try.func21 (by kernel_rfl) ⟨rfl, hI⟩
  · refine go_else' (t := !y1.1) (by kernel_rfl) hc3 ?_
    refine go_skip ?_
    refine r_in ?_
    refine o_batch 0 [] [.p, .p, .p, .p, .p, .p] [(23, .int .i64 1), (24, .int .i64 2), (25, .int .i64 14), (26, .int .i64 15), (2, .int .i64 2), (3, .int .i64 15)] [] trivial trivial (by kernel_rfl) (by kernel_rfl) (by kernel_rfl) ?_
    refine r_out (by kernel_rfl) ?_
    refine go_inBlock ?_
    refine r_in ?_
    refine o_batch 0 [] [.p, .p, .p] [(7, .int .i64 14), (8, .int .i64 15), (4, .int .i64 15)] [] trivial trivial (by kernel_rfl) (by kernel_rfl) (by kernel_rfl) ?_
    refine r_out (by kernel_rfl) ?_
    refine go_again ?_
    refine go_gen [(0, .func (.yield l) #[] #[]), (2, .int .i64 2), (3, .int .i64 15), (4, .int .i64 15)] (by kernel_rfl) ?_
    intro _
    replace hI := hI.pick (L' := [B y1.2]) [0] (by decide) rfl
    refine go_seq ?_
    refine go_seq ?_
    refine r_in ?_
    refine o_batch 0 [] [.p, .p] [(5, .int .i64 15), (6, .bool true)] [] trivial trivial (by kernel_rfl) (by kernel_rfl) (by kernel_rfl) ?_
    refine r_out (by kernel_rfl) ?_
    refine go_then (by kernel_rfl) ?_
    refine go_skip ?_
    refine go_seq ?_
    refine go_block ?_
    refine go_seq ?_
    refine go_seq ?_
    refine r_in ?_
    refine o_batch 0 [] [.p, .p, .p, .p, .x, .p, .p] [(9, .int .i64 15), (10, .bool true), (11, .bool true), (12, .int .i64 15), (13, .int .u8 99), (14, .bool true), (15, .bool true)] [(15, (⟨#[114, 101, 97, 100, 45, 99, 111, 109, 109, 105, 116, 116, 101, 100, 32, 99, 117, 114, 115, 111, 114, 45, 115, 116, 97, 98, 108, 101, 32, 114, 101, 97, 100, 45, 97, 116, 111, 109, 105, 99, 32, 99, 97, 117, 115, 97, 108, 32, 112, 114, 101, 102, 105, 120, 32, 115, 110, 97, 112, 115, 104, 111, 116, 32, 115, 101, 114, 105, 97, 108, 105, 122, 97, 98, 108, 101, 32, 115, 116, 114, 105, 99, 116]⟩ : ByteArray).size)] trivial ⟨(by decide), trivial⟩ (by kernel_rfl) (by kernel_rfl) (by kernel_rfl) ?_
    refine r_out (by kernel_rfl) ?_
    refine go_then (by kernel_rfl) ?_
    refine go_exit rfl ?_
    refine r_in ?_
    refine o_batch 0 [] [.p, .p, .p] [(7, .int .i64 15), (8, .int .i64 16), (4, .int .i64 16)] [] trivial trivial (by kernel_rfl) (by kernel_rfl) (by kernel_rfl) ?_
    refine r_out (by kernel_rfl) ?_
    refine go_again ?_
    refine go_gen [(0, .func (.yield l) #[] #[]), (2, .int .i64 2), (3, .int .i64 15), (4, .int .i64 16)] (by kernel_rfl) ?_
    intro _
    replace hI := hI.pick (L' := [B y1.2]) [0] (by decide) rfl
    refine go_seq ?_
    refine go_seq ?_
    refine r_in ?_
    refine o_batch 0 [] [.p, .p] [(5, .int .i64 16), (6, .bool true)] [] trivial trivial (by kernel_rfl) (by kernel_rfl) (by kernel_rfl) ?_
    refine r_out (by kernel_rfl) ?_
    refine go_then (by kernel_rfl) ?_
    refine go_skip ?_
    refine go_seq ?_
    refine go_block ?_
    refine go_seq ?_
    refine go_seq ?_
    refine r_in ?_
    refine o_batch 0 [] [.p, .p, .p, .p, .x, .p, .p] [(9, .int .i64 16), (10, .bool true), (11, .bool true), (12, .int .i64 16), (13, .int .u8 117), (14, .bool true), (15, .bool true)] [(16, (⟨#[114, 101, 97, 100, 45, 99, 111, 109, 109, 105, 116, 116, 101, 100, 32, 99, 117, 114, 115, 111, 114, 45, 115, 116, 97, 98, 108, 101, 32, 114, 101, 97, 100, 45, 97, 116, 111, 109, 105, 99, 32, 99, 97, 117, 115, 97, 108, 32, 112, 114, 101, 102, 105, 120, 32, 115, 110, 97, 112, 115, 104, 111, 116, 32, 115, 101, 114, 105, 97, 108, 105, 122, 97, 98, 108, 101, 32, 115, 116, 114, 105, 99, 116]⟩ : ByteArray).size)] trivial ⟨(by decide), trivial⟩ (by kernel_rfl) (by kernel_rfl) (by kernel_rfl) ?_
    refine r_out (by kernel_rfl) ?_
    refine go_then (by kernel_rfl) ?_
    refine go_exit rfl ?_
    refine r_in ?_
    refine o_batch 0 [] [.p, .p, .p] [(7, .int .i64 16), (8, .int .i64 17), (4, .int .i64 17)] [] trivial trivial (by kernel_rfl) (by kernel_rfl) (by kernel_rfl) ?_
    refine r_out (by kernel_rfl) ?_
    refine go_again ?_
    refine go_gen [(0, .func (.yield l) #[] #[]), (2, .int .i64 2), (3, .int .i64 15), (4, .int .i64 17)] (by kernel_rfl) ?_
    intro _
    replace hI := hI.pick (L' := [B y1.2]) [0] (by decide) rfl
    refine go_seq ?_
    refine go_seq ?_
    refine r_in ?_
    refine o_batch 0 [] [.p, .p] [(5, .int .i64 17), (6, .bool true)] [] trivial trivial (by kernel_rfl) (by kernel_rfl) (by kernel_rfl) ?_
    refine r_out (by kernel_rfl) ?_
    refine go_then (by kernel_rfl) ?_
    refine go_skip ?_
    refine go_seq ?_
    refine go_block ?_
    refine go_seq ?_
    refine go_seq ?_
    refine r_in ?_
    refine o_batch 0 [] [.p, .p, .p, .p, .x, .p, .p] [(9, .int .i64 17), (10, .bool true), (11, .bool true), (12, .int .i64 17), (13, .int .u8 114), (14, .bool true), (15, .bool true)] [(17, (⟨#[114, 101, 97, 100, 45, 99, 111, 109, 109, 105, 116, 116, 101, 100, 32, 99, 117, 114, 115, 111, 114, 45, 115, 116, 97, 98, 108, 101, 32, 114, 101, 97, 100, 45, 97, 116, 111, 109, 105, 99, 32, 99, 97, 117, 115, 97, 108, 32, 112, 114, 101, 102, 105, 120, 32, 115, 110, 97, 112, 115, 104, 111, 116, 32, 115, 101, 114, 105, 97, 108, 105, 122, 97, 98, 108, 101, 32, 115, 116, 114, 105, 99, 116]⟩ : ByteArray).size)] trivial ⟨(by decide), trivial⟩ (by kernel_rfl) (by kernel_rfl) (by kernel_rfl) ?_
    refine r_out (by kernel_rfl) ?_
    refine go_then (by kernel_rfl) ?_
    refine go_exit rfl ?_
    refine r_in ?_
    refine o_batch 0 [] [.p, .p, .p] [(7, .int .i64 17), (8, .int .i64 18), (4, .int .i64 18)] [] trivial trivial (by kernel_rfl) (by kernel_rfl) (by kernel_rfl) ?_
    refine r_out (by kernel_rfl) ?_
    refine go_again ?_
    refine go_gen [(0, .func (.yield l) #[] #[]), (2, .int .i64 2), (3, .int .i64 15), (4, .int .i64 18)] (by kernel_rfl) ?_
    intro _
    replace hI := hI.pick (L' := [B y1.2]) [0] (by decide) rfl
    refine go_seq ?_
    refine go_seq ?_
    refine r_in ?_
    refine o_batch 0 [] [.p, .p] [(5, .int .i64 18), (6, .bool true)] [] trivial trivial (by kernel_rfl) (by kernel_rfl) (by kernel_rfl) ?_
    refine r_out (by kernel_rfl) ?_
    refine go_then (by kernel_rfl) ?_
    refine go_skip ?_
    refine go_seq ?_
    refine go_block ?_
    refine go_seq ?_
    refine go_seq ?_
    refine r_in ?_
    refine o_batch 0 [] [.p, .p, .p, .p, .x, .p, .p] [(9, .int .i64 18), (10, .bool true), (11, .bool true), (12, .int .i64 18), (13, .int .u8 115), (14, .bool true), (15, .bool true)] [(18, (⟨#[114, 101, 97, 100, 45, 99, 111, 109, 109, 105, 116, 116, 101, 100, 32, 99, 117, 114, 115, 111, 114, 45, 115, 116, 97, 98, 108, 101, 32, 114, 101, 97, 100, 45, 97, 116, 111, 109, 105, 99, 32, 99, 97, 117, 115, 97, 108, 32, 112, 114, 101, 102, 105, 120, 32, 115, 110, 97, 112, 115, 104, 111, 116, 32, 115, 101, 114, 105, 97, 108, 105, 122, 97, 98, 108, 101, 32, 115, 116, 114, 105, 99, 116]⟩ : ByteArray).size)] trivial ⟨(by decide), trivial⟩ (by kernel_rfl) (by kernel_rfl) (by kernel_rfl) ?_
    refine r_out (by kernel_rfl) ?_
    refine go_then (by kernel_rfl) ?_
    refine go_exit rfl ?_
    refine r_in ?_
    refine o_batch 0 [] [.p, .p, .p] [(7, .int .i64 18), (8, .int .i64 19), (4, .int .i64 19)] [] trivial trivial (by kernel_rfl) (by kernel_rfl) (by kernel_rfl) ?_
    refine r_out (by kernel_rfl) ?_
    refine go_again ?_
    refine go_gen [(0, .func (.yield l) #[] #[]), (2, .int .i64 2), (3, .int .i64 15), (4, .int .i64 19)] (by kernel_rfl) ?_
    intro _
    replace hI := hI.pick (L' := [B y1.2]) [0] (by decide) rfl
    refine go_seq ?_
    refine go_seq ?_
    refine r_in ?_
    refine o_batch 0 [] [.p, .p] [(5, .int .i64 19), (6, .bool true)] [] trivial trivial (by kernel_rfl) (by kernel_rfl) (by kernel_rfl) ?_
    refine r_out (by kernel_rfl) ?_
    refine go_then (by kernel_rfl) ?_
    refine go_skip ?_
    refine go_seq ?_
    refine go_block ?_
    refine go_seq ?_
    refine go_seq ?_
    refine r_in ?_
    refine o_batch 0 [] [.p, .p, .p, .p, .x, .p, .p] [(9, .int .i64 19), (10, .bool true), (11, .bool true), (12, .int .i64 19), (13, .int .u8 111), (14, .bool true), (15, .bool true)] [(19, (⟨#[114, 101, 97, 100, 45, 99, 111, 109, 109, 105, 116, 116, 101, 100, 32, 99, 117, 114, 115, 111, 114, 45, 115, 116, 97, 98, 108, 101, 32, 114, 101, 97, 100, 45, 97, 116, 111, 109, 105, 99, 32, 99, 97, 117, 115, 97, 108, 32, 112, 114, 101, 102, 105, 120, 32, 115, 110, 97, 112, 115, 104, 111, 116, 32, 115, 101, 114, 105, 97, 108, 105, 122, 97, 98, 108, 101, 32, 115, 116, 114, 105, 99, 116]⟩ : ByteArray).size)] trivial ⟨(by decide), trivial⟩ (by kernel_rfl) (by kernel_rfl) (by kernel_rfl) ?_
    refine r_out (by kernel_rfl) ?_
    refine go_then (by kernel_rfl) ?_
    refine go_exit rfl ?_
    refine r_in ?_
    refine o_batch 0 [] [.p, .p, .p] [(7, .int .i64 19), (8, .int .i64 20), (4, .int .i64 20)] [] trivial trivial (by kernel_rfl) (by kernel_rfl) (by kernel_rfl) ?_
    refine r_out (by kernel_rfl) ?_
    refine go_again ?_
    refine go_gen [(0, .func (.yield l) #[] #[]), (2, .int .i64 2), (3, .int .i64 15), (4, .int .i64 20)] (by kernel_rfl) ?_
    intro _
    replace hI := hI.pick (L' := [B y1.2]) [0] (by decide) rfl
    refine go_seq ?_
    refine go_seq ?_
    refine r_in ?_
    refine o_batch 0 [] [.p, .p] [(5, .int .i64 20), (6, .bool true)] [] trivial trivial (by kernel_rfl) (by kernel_rfl) (by kernel_rfl) ?_
    refine r_out (by kernel_rfl) ?_
    refine go_then (by kernel_rfl) ?_
    refine go_skip ?_
    refine go_seq ?_
    refine go_block ?_
    refine go_seq ?_
    refine go_seq ?_
    refine r_in ?_
    refine o_batch 0 [] [.p, .p, .p, .p, .x, .p, .p] [(9, .int .i64 20), (10, .bool true), (11, .bool true), (12, .int .i64 20), (13, .int .u8 114), (14, .bool true), (15, .bool true)] [(20, (⟨#[114, 101, 97, 100, 45, 99, 111, 109, 109, 105, 116, 116, 101, 100, 32, 99, 117, 114, 115, 111, 114, 45, 115, 116, 97, 98, 108, 101, 32, 114, 101, 97, 100, 45, 97, 116, 111, 109, 105, 99, 32, 99, 97, 117, 115, 97, 108, 32, 112, 114, 101, 102, 105, 120, 32, 115, 110, 97, 112, 115, 104, 111, 116, 32, 115, 101, 114, 105, 97, 108, 105, 122, 97, 98, 108, 101, 32, 115, 116, 114, 105, 99, 116]⟩ : ByteArray).size)] trivial ⟨(by decide), trivial⟩ (by kernel_rfl) (by kernel_rfl) (by kernel_rfl) ?_
    refine r_out (by kernel_rfl) ?_
    refine go_then (by kernel_rfl) ?_
    refine go_exit rfl ?_
    refine r_in ?_
    refine o_batch 0 [] [.p, .p, .p] [(7, .int .i64 20), (8, .int .i64 21), (4, .int .i64 21)] [] trivial trivial (by kernel_rfl) (by kernel_rfl) (by kernel_rfl) ?_
    refine r_out (by kernel_rfl) ?_
    refine go_again ?_
    refine go_gen [(0, .func (.yield l) #[] #[]), (2, .int .i64 2), (3, .int .i64 15), (4, .int .i64 21)] (by kernel_rfl) ?_
    intro _
    replace hI := hI.pick (L' := [B y1.2]) [0] (by decide) rfl
    refine go_seq ?_
    refine go_seq ?_
    refine r_in ?_
    refine o_batch 0 [] [.p, .p] [(5, .int .i64 21), (6, .bool true)] [] trivial trivial (by kernel_rfl) (by kernel_rfl) (by kernel_rfl) ?_
    refine r_out (by kernel_rfl) ?_
    refine go_then (by kernel_rfl) ?_
    refine go_skip ?_
    refine go_seq ?_
    refine go_block ?_
    refine go_seq ?_
    refine go_seq ?_
    refine r_in ?_
    refine o_batch 0 [] [.p, .p, .p, .p, .x, .p, .p] [(9, .int .i64 21), (10, .bool true), (11, .bool true), (12, .int .i64 21), (13, .int .u8 45), (14, .bool true), (15, .bool true)] [(21, (⟨#[114, 101, 97, 100, 45, 99, 111, 109, 109, 105, 116, 116, 101, 100, 32, 99, 117, 114, 115, 111, 114, 45, 115, 116, 97, 98, 108, 101, 32, 114, 101, 97, 100, 45, 97, 116, 111, 109, 105, 99, 32, 99, 97, 117, 115, 97, 108, 32, 112, 114, 101, 102, 105, 120, 32, 115, 110, 97, 112, 115, 104, 111, 116, 32, 115, 101, 114, 105, 97, 108, 105, 122, 97, 98, 108, 101, 32, 115, 116, 114, 105, 99, 116]⟩ : ByteArray).size)] trivial ⟨(by decide), trivial⟩ (by kernel_rfl) (by kernel_rfl) (by kernel_rfl) ?_
    refine r_out (by kernel_rfl) ?_
    refine go_then (by kernel_rfl) ?_
    refine go_exit rfl ?_
    refine r_in ?_
    refine o_batch 0 [] [.p, .p, .p] [(7, .int .i64 21), (8, .int .i64 22), (4, .int .i64 22)] [] trivial trivial (by kernel_rfl) (by kernel_rfl) (by kernel_rfl) ?_
    refine r_out (by kernel_rfl) ?_
    refine go_again ?_
    refine go_gen [(0, .func (.yield l) #[] #[]), (2, .int .i64 2), (3, .int .i64 15), (4, .int .i64 22)] (by kernel_rfl) ?_
    intro _
    replace hI := hI.pick (L' := [B y1.2]) [0] (by decide) rfl
    refine go_seq ?_
    refine go_seq ?_
    refine r_in ?_
    refine o_batch 0 [] [.p, .p] [(5, .int .i64 22), (6, .bool true)] [] trivial trivial (by kernel_rfl) (by kernel_rfl) (by kernel_rfl) ?_
    refine r_out (by kernel_rfl) ?_
    refine go_then (by kernel_rfl) ?_
    refine go_skip ?_
    refine go_seq ?_
    refine go_block ?_
    refine go_seq ?_
    refine go_seq ?_
    refine r_in ?_
    refine o_batch 0 [] [.p, .p, .p, .p, .x, .p, .p] [(9, .int .i64 22), (10, .bool true), (11, .bool true), (12, .int .i64 22), (13, .int .u8 115), (14, .bool true), (15, .bool true)] [(22, (⟨#[114, 101, 97, 100, 45, 99, 111, 109, 109, 105, 116, 116, 101, 100, 32, 99, 117, 114, 115, 111, 114, 45, 115, 116, 97, 98, 108, 101, 32, 114, 101, 97, 100, 45, 97, 116, 111, 109, 105, 99, 32, 99, 97, 117, 115, 97, 108, 32, 112, 114, 101, 102, 105, 120, 32, 115, 110, 97, 112, 115, 104, 111, 116, 32, 115, 101, 114, 105, 97, 108, 105, 122, 97, 98, 108, 101, 32, 115, 116, 114, 105, 99, 116]⟩ : ByteArray).size)] trivial ⟨(by decide), trivial⟩ (by kernel_rfl) (by kernel_rfl) (by kernel_rfl) ?_
    refine r_out (by kernel_rfl) ?_
    refine go_then (by kernel_rfl) ?_
    refine go_exit rfl ?_
    refine r_in ?_
    refine o_batch 0 [] [.p, .p, .p] [(7, .int .i64 22), (8, .int .i64 23), (4, .int .i64 23)] [] trivial trivial (by kernel_rfl) (by kernel_rfl) (by kernel_rfl) ?_
    refine r_out (by kernel_rfl) ?_
    refine go_again ?_
    refine go_gen [(0, .func (.yield l) #[] #[]), (2, .int .i64 2), (3, .int .i64 15), (4, .int .i64 23)] (by kernel_rfl) ?_
    intro _
    replace hI := hI.pick (L' := [B y1.2]) [0] (by decide) rfl
    refine go_seq ?_
    refine go_seq ?_
    refine r_in ?_
    refine o_batch 0 [] [.p, .p] [(5, .int .i64 23), (6, .bool true)] [] trivial trivial (by kernel_rfl) (by kernel_rfl) (by kernel_rfl) ?_
    refine r_out (by kernel_rfl) ?_
    refine go_then (by kernel_rfl) ?_
    refine go_skip ?_
    refine go_seq ?_
    refine go_block ?_
    refine go_seq ?_
    refine go_seq ?_
    refine r_in ?_
    refine o_batch 0 [] [.p, .p, .p, .p, .x, .p, .p] [(9, .int .i64 23), (10, .bool true), (11, .bool true), (12, .int .i64 23), (13, .int .u8 116), (14, .bool true), (15, .bool true)] [(23, (⟨#[114, 101, 97, 100, 45, 99, 111, 109, 109, 105, 116, 116, 101, 100, 32, 99, 117, 114, 115, 111, 114, 45, 115, 116, 97, 98, 108, 101, 32, 114, 101, 97, 100, 45, 97, 116, 111, 109, 105, 99, 32, 99, 97, 117, 115, 97, 108, 32, 112, 114, 101, 102, 105, 120, 32, 115, 110, 97, 112, 115, 104, 111, 116, 32, 115, 101, 114, 105, 97, 108, 105, 122, 97, 98, 108, 101, 32, 115, 116, 114, 105, 99, 116]⟩ : ByteArray).size)] trivial ⟨(by decide), trivial⟩ (by kernel_rfl) (by kernel_rfl) (by kernel_rfl) ?_
    refine r_out (by kernel_rfl) ?_
    refine go_then (by kernel_rfl) ?_
    refine go_exit rfl ?_
    refine r_in ?_
    refine o_batch 0 [] [.p, .p, .p] [(7, .int .i64 23), (8, .int .i64 24), (4, .int .i64 24)] [] trivial trivial (by kernel_rfl) (by kernel_rfl) (by kernel_rfl) ?_
    refine r_out (by kernel_rfl) ?_
    refine go_again ?_
    refine go_gen [(0, .func (.yield l) #[] #[]), (2, .int .i64 2), (3, .int .i64 15), (4, .int .i64 24)] (by kernel_rfl) ?_
    intro _
    replace hI := hI.pick (L' := [B y1.2]) [0] (by decide) rfl
    refine go_seq ?_
    refine go_seq ?_
    refine r_in ?_
    refine o_batch 0 [] [.p, .p] [(5, .int .i64 24), (6, .bool true)] [] trivial trivial (by kernel_rfl) (by kernel_rfl) (by kernel_rfl) ?_
    refine r_out (by kernel_rfl) ?_
    refine go_then (by kernel_rfl) ?_
    refine go_skip ?_
    refine go_seq ?_
    refine go_block ?_
    refine go_seq ?_
    refine go_seq ?_
    refine r_in ?_
    refine o_batch 0 [] [.p, .p, .p, .p, .x, .p, .p] [(9, .int .i64 24), (10, .bool true), (11, .bool true), (12, .int .i64 24), (13, .int .u8 97), (14, .bool true), (15, .bool true)] [(24, (⟨#[114, 101, 97, 100, 45, 99, 111, 109, 109, 105, 116, 116, 101, 100, 32, 99, 117, 114, 115, 111, 114, 45, 115, 116, 97, 98, 108, 101, 32, 114, 101, 97, 100, 45, 97, 116, 111, 109, 105, 99, 32, 99, 97, 117, 115, 97, 108, 32, 112, 114, 101, 102, 105, 120, 32, 115, 110, 97, 112, 115, 104, 111, 116, 32, 115, 101, 114, 105, 97, 108, 105, 122, 97, 98, 108, 101, 32, 115, 116, 114, 105, 99, 116]⟩ : ByteArray).size)] trivial ⟨(by decide), trivial⟩ (by kernel_rfl) (by kernel_rfl) (by kernel_rfl) ?_
    refine r_out (by kernel_rfl) ?_
    refine go_then (by kernel_rfl) ?_
    refine go_exit rfl ?_
    refine r_in ?_
    refine o_batch 0 [] [.p, .p, .p] [(7, .int .i64 24), (8, .int .i64 25), (4, .int .i64 25)] [] trivial trivial (by kernel_rfl) (by kernel_rfl) (by kernel_rfl) ?_
    refine r_out (by kernel_rfl) ?_
    refine go_again ?_
    refine go_gen [(0, .func (.yield l) #[] #[]), (2, .int .i64 2), (3, .int .i64 15), (4, .int .i64 25)] (by kernel_rfl) ?_
    intro _
    replace hI := hI.pick (L' := [B y1.2]) [0] (by decide) rfl
    refine go_seq ?_
    refine go_seq ?_
    refine r_in ?_
    refine o_batch 0 [] [.p, .p] [(5, .int .i64 25), (6, .bool true)] [] trivial trivial (by kernel_rfl) (by kernel_rfl) (by kernel_rfl) ?_
    refine r_out (by kernel_rfl) ?_
    refine go_then (by kernel_rfl) ?_
    refine go_skip ?_
    refine go_seq ?_
    refine go_block ?_
    refine go_seq ?_
    refine go_seq ?_
    refine r_in ?_
    refine o_batch 0 [] [.p, .p, .p, .p, .x, .p, .p] [(9, .int .i64 25), (10, .bool true), (11, .bool true), (12, .int .i64 25), (13, .int .u8 98), (14, .bool true), (15, .bool true)] [(25, (⟨#[114, 101, 97, 100, 45, 99, 111, 109, 109, 105, 116, 116, 101, 100, 32, 99, 117, 114, 115, 111, 114, 45, 115, 116, 97, 98, 108, 101, 32, 114, 101, 97, 100, 45, 97, 116, 111, 109, 105, 99, 32, 99, 97, 117, 115, 97, 108, 32, 112, 114, 101, 102, 105, 120, 32, 115, 110, 97, 112, 115, 104, 111, 116, 32, 115, 101, 114, 105, 97, 108, 105, 122, 97, 98, 108, 101, 32, 115, 116, 114, 105, 99, 116]⟩ : ByteArray).size)] trivial ⟨(by decide), trivial⟩ (by kernel_rfl) (by kernel_rfl) (by kernel_rfl) ?_
    refine r_out (by kernel_rfl) ?_
    refine go_then (by kernel_rfl) ?_
    refine go_exit rfl ?_
    refine r_in ?_
    refine o_batch 0 [] [.p, .p, .p] [(7, .int .i64 25), (8, .int .i64 26), (4, .int .i64 26)] [] trivial trivial (by kernel_rfl) (by kernel_rfl) (by kernel_rfl) ?_
    refine r_out (by kernel_rfl) ?_
    refine go_again ?_
    refine go_gen [(0, .func (.yield l) #[] #[]), (2, .int .i64 2), (3, .int .i64 15), (4, .int .i64 26)] (by kernel_rfl) ?_
    intro _
    replace hI := hI.pick (L' := [B y1.2]) [0] (by decide) rfl
    refine go_seq ?_
    refine go_seq ?_
    refine r_in ?_
    refine o_batch 0 [] [.p, .p] [(5, .int .i64 26), (6, .bool true)] [] trivial trivial (by kernel_rfl) (by kernel_rfl) (by kernel_rfl) ?_
    refine r_out (by kernel_rfl) ?_
    refine go_then (by kernel_rfl) ?_
    refine go_skip ?_
    refine go_seq ?_
    refine go_block ?_
    refine go_seq ?_
    refine go_seq ?_
    refine r_in ?_
    refine o_batch 0 [] [.p, .p, .p, .p, .x, .p, .p] [(9, .int .i64 26), (10, .bool true), (11, .bool true), (12, .int .i64 26), (13, .int .u8 108), (14, .bool true), (15, .bool true)] [(26, (⟨#[114, 101, 97, 100, 45, 99, 111, 109, 109, 105, 116, 116, 101, 100, 32, 99, 117, 114, 115, 111, 114, 45, 115, 116, 97, 98, 108, 101, 32, 114, 101, 97, 100, 45, 97, 116, 111, 109, 105, 99, 32, 99, 97, 117, 115, 97, 108, 32, 112, 114, 101, 102, 105, 120, 32, 115, 110, 97, 112, 115, 104, 111, 116, 32, 115, 101, 114, 105, 97, 108, 105, 122, 97, 98, 108, 101, 32, 115, 116, 114, 105, 99, 116]⟩ : ByteArray).size)] trivial ⟨(by decide), trivial⟩ (by kernel_rfl) (by kernel_rfl) (by kernel_rfl) ?_
    refine r_out (by kernel_rfl) ?_
    refine go_then (by kernel_rfl) ?_
    refine go_exit rfl ?_
    refine r_in ?_
    refine o_batch 0 [] [.p, .p, .p] [(7, .int .i64 26), (8, .int .i64 27), (4, .int .i64 27)] [] trivial trivial (by kernel_rfl) (by kernel_rfl) (by kernel_rfl) ?_
    refine r_out (by kernel_rfl) ?_
    refine go_again ?_
    refine go_gen [(0, .func (.yield l) #[] #[]), (2, .int .i64 2), (3, .int .i64 15), (4, .int .i64 27)] (by kernel_rfl) ?_
    intro _
    replace hI := hI.pick (L' := [B y1.2]) [0] (by decide) rfl
    refine go_seq ?_
    refine go_seq ?_
    refine r_in ?_
    refine o_batch 0 [] [.p, .p] [(5, .int .i64 27), (6, .bool true)] [] trivial trivial (by kernel_rfl) (by kernel_rfl) (by kernel_rfl) ?_
    refine r_out (by kernel_rfl) ?_
    refine go_then (by kernel_rfl) ?_
    refine go_skip ?_
    refine go_seq ?_
    refine go_block ?_
    refine go_seq ?_
    refine go_seq ?_
    refine r_in ?_
    refine o_batch 0 [] [.p, .p, .p, .p, .x, .p, .p] [(9, .int .i64 27), (10, .bool true), (11, .bool true), (12, .int .i64 27), (13, .int .u8 101), (14, .bool true), (15, .bool true)] [(27, (⟨#[114, 101, 97, 100, 45, 99, 111, 109, 109, 105, 116, 116, 101, 100, 32, 99, 117, 114, 115, 111, 114, 45, 115, 116, 97, 98, 108, 101, 32, 114, 101, 97, 100, 45, 97, 116, 111, 109, 105, 99, 32, 99, 97, 117, 115, 97, 108, 32, 112, 114, 101, 102, 105, 120, 32, 115, 110, 97, 112, 115, 104, 111, 116, 32, 115, 101, 114, 105, 97, 108, 105, 122, 97, 98, 108, 101, 32, 115, 116, 114, 105, 99, 116]⟩ : ByteArray).size)] trivial ⟨(by decide), trivial⟩ (by kernel_rfl) (by kernel_rfl) (by kernel_rfl) ?_
    refine r_out (by kernel_rfl) ?_
    refine go_then (by kernel_rfl) ?_
    refine go_exit rfl ?_
    refine r_in ?_
    refine o_batch 0 [] [.p, .p, .p] [(7, .int .i64 27), (8, .int .i64 28), (4, .int .i64 28)] [] trivial trivial (by kernel_rfl) (by kernel_rfl) (by kernel_rfl) ?_
    refine r_out (by kernel_rfl) ?_
    refine go_again ?_
    refine go_gen [(0, .func (.yield l) #[] #[]), (2, .int .i64 2), (3, .int .i64 15), (4, .int .i64 28)] (by kernel_rfl) ?_
    intro _
    replace hI := hI.pick (L' := [B y1.2]) [0] (by decide) rfl
    refine go_seq ?_
    refine go_seq ?_
    refine r_in ?_
    refine o_batch 0 [] [.p, .p] [(5, .int .i64 28), (6, .bool true)] [] trivial trivial (by kernel_rfl) (by kernel_rfl) (by kernel_rfl) ?_
    refine r_out (by kernel_rfl) ?_
    refine go_then (by kernel_rfl) ?_
    refine go_skip ?_
    refine go_seq ?_
    refine go_block ?_
    refine go_seq ?_
    refine go_seq ?_
    refine r_in ?_
    refine o_batch 0 [] [.p, .p, .p, .p, .x, .p, .p] [(9, .int .i64 28), (10, .bool true), (11, .bool true), (12, .int .i64 28), (13, .int .u8 32), (14, .bool false), (15, .bool false)] [(28, (⟨#[114, 101, 97, 100, 45, 99, 111, 109, 109, 105, 116, 116, 101, 100, 32, 99, 117, 114, 115, 111, 114, 45, 115, 116, 97, 98, 108, 101, 32, 114, 101, 97, 100, 45, 97, 116, 111, 109, 105, 99, 32, 99, 97, 117, 115, 97, 108, 32, 112, 114, 101, 102, 105, 120, 32, 115, 110, 97, 112, 115, 104, 111, 116, 32, 115, 101, 114, 105, 97, 108, 105, 122, 97, 98, 108, 101, 32, 115, 116, 114, 105, 99, 116]⟩ : ByteArray).size)] trivial ⟨(by decide), trivial⟩ (by kernel_rfl) (by kernel_rfl) (by kernel_rfl) ?_
    refine r_out (by kernel_rfl) ?_
    refine go_else (by kernel_rfl) ?_
    refine go_skip ?_
    refine go_seq ?_
    refine go_seq ?_
    refine r_in ?_
    refine o_batch 0 [] [.p, .p, .p, .p, .x] [(16, .func (.yield l) #[] #[]), (17, .int .i64 2), (18, .int .i64 15), (19, .int .i64 28), (20, .string (⟨#[99, 117, 114, 115, 111, 114, 45, 115, 116, 97, 98, 108, 101]⟩ : ByteArray))] [(15, (28 : Int).toNat + 1), (28, (⟨#[114, 101, 97, 100, 45, 99, 111, 109, 109, 105, 116, 116, 101, 100, 32, 99, 117, 114, 115, 111, 114, 45, 115, 116, 97, 98, 108, 101, 32, 114, 101, 97, 100, 45, 97, 116, 111, 109, 105, 99, 32, 99, 97, 117, 115, 97, 108, 32, 112, 114, 101, 102, 105, 120, 32, 115, 110, 97, 112, 115, 104, 111, 116, 32, 115, 101, 114, 105, 97, 108, 105, 122, 97, 98, 108, 101, 32, 115, 116, 114, 105, 99, 116]⟩ : ByteArray).size + 1)] trivial ⟨(by decide), (by decide), trivial⟩ (by kernel_rfl) (by kernel_rfl) (by kernel_rfl) ?_
    replace H := bind_some H
    obtain ⟨y4, hy5, H⟩ := H
    refine o_yield 5 _ rfl (by kernel_rfl) l _ _ _ _ rfl (by kernel_rfl) (by kernel_rfl) (hY _ _ _ _ _ hy5 hI) ?_
    clear hI
    rintro _ _ ⟨rfl, hI⟩
    refine o_batch 6 [] [.p] [(22, .bool (!y4.1))] [] trivial trivial (by kernel_rfl) (by kernel_rfl) (by kernel_rfl) ?_
    refine r_out (by kernel_rfl) ?_
    replace H := cond_some H
    rcases H with ⟨hc6, H⟩ | ⟨hc6, H⟩
    · refine go_then' (t := !y4.1) (by kernel_rfl) hc6 ?_
      replace H := Option.some.inj H
      subst H
      exact go_return (.tuple #[]) Try.func21 (by kernel_rfl) ⟨rfl, hI⟩
    · refine go_else' (t := !y4.1) (by kernel_rfl) hc6 ?_
      refine go_skip ?_
      refine r_in ?_
      refine o_batch 0 [] [.p, .p, .p, .p, .p, .p] [(23, .int .i64 2), (24, .int .i64 3), (25, .int .i64 28), (26, .int .i64 29), (2, .int .i64 3), (3, .int .i64 29)] [] trivial trivial (by kernel_rfl) (by kernel_rfl) (by kernel_rfl) ?_
      refine r_out (by kernel_rfl) ?_
      refine go_inBlock ?_
      refine r_in ?_
      refine o_batch 0 [] [.p, .p, .p] [(7, .int .i64 28), (8, .int .i64 29), (4, .int .i64 29)] [] trivial trivial (by kernel_rfl) (by kernel_rfl) (by kernel_rfl) ?_
      refine r_out (by kernel_rfl) ?_
      refine go_again ?_
      refine go_gen [(0, .func (.yield l) #[] #[]), (2, .int .i64 3), (3, .int .i64 29), (4, .int .i64 29)] (by kernel_rfl) ?_
      intro _
      replace hI := hI.pick (L' := [B y4.2]) [0] (by decide) rfl
      refine go_seq ?_
      refine go_seq ?_
      refine r_in ?_
      refine o_batch 0 [] [.p, .p] [(5, .int .i64 29), (6, .bool true)] [] trivial trivial (by kernel_rfl) (by kernel_rfl) (by kernel_rfl) ?_
      refine r_out (by kernel_rfl) ?_
      refine go_then (by kernel_rfl) ?_
      refine go_skip ?_
      refine go_seq ?_
      refine go_block ?_
      refine go_seq ?_
      refine go_seq ?_
      refine r_in ?_
      refine o_batch 0 [] [.p, .p, .p, .p, .x, .p, .p] [(9, .int .i64 29), (10, .bool true), (11, .bool true), (12, .int .i64 29), (13, .int .u8 114), (14, .bool true), (15, .bool true)] [(29, (⟨#[114, 101, 97, 100, 45, 99, 111, 109, 109, 105, 116, 116, 101, 100, 32, 99, 117, 114, 115, 111, 114, 45, 115, 116, 97, 98, 108, 101, 32, 114, 101, 97, 100, 45, 97, 116, 111, 109, 105, 99, 32, 99, 97, 117, 115, 97, 108, 32, 112, 114, 101, 102, 105, 120, 32, 115, 110, 97, 112, 115, 104, 111, 116, 32, 115, 101, 114, 105, 97, 108, 105, 122, 97, 98, 108, 101, 32, 115, 116, 114, 105, 99, 116]⟩ : ByteArray).size)] trivial ⟨(by decide), trivial⟩ (by kernel_rfl) (by kernel_rfl) (by kernel_rfl) ?_
      refine r_out (by kernel_rfl) ?_
      refine go_then (by kernel_rfl) ?_
      refine go_exit rfl ?_
      refine r_in ?_
      refine o_batch 0 [] [.p, .p, .p] [(7, .int .i64 29), (8, .int .i64 30), (4, .int .i64 30)] [] trivial trivial (by kernel_rfl) (by kernel_rfl) (by kernel_rfl) ?_
      refine r_out (by kernel_rfl) ?_
      refine go_again ?_
      refine go_gen [(0, .func (.yield l) #[] #[]), (2, .int .i64 3), (3, .int .i64 29), (4, .int .i64 30)] (by kernel_rfl) ?_
      intro _
      replace hI := hI.pick (L' := [B y4.2]) [0] (by decide) rfl
      refine go_seq ?_
      refine go_seq ?_
      refine r_in ?_
      refine o_batch 0 [] [.p, .p] [(5, .int .i64 30), (6, .bool true)] [] trivial trivial (by kernel_rfl) (by kernel_rfl) (by kernel_rfl) ?_
      refine r_out (by kernel_rfl) ?_
      refine go_then (by kernel_rfl) ?_
      refine go_skip ?_
      refine go_seq ?_
      refine go_block ?_
      refine go_seq ?_
      refine go_seq ?_
      refine r_in ?_
      refine o_batch 0 [] [.p, .p, .p, .p, .x, .p, .p] [(9, .int .i64 30), (10, .bool true), (11, .bool true), (12, .int .i64 30), (13, .int .u8 101), (14, .bool true), (15, .bool true)] [(30, (⟨#[114, 101, 97, 100, 45, 99, 111, 109, 109, 105, 116, 116, 101, 100, 32, 99, 117, 114, 115, 111, 114, 45, 115, 116, 97, 98, 108, 101, 32, 114, 101, 97, 100, 45, 97, 116, 111, 109, 105, 99, 32, 99, 97, 117, 115, 97, 108, 32, 112, 114, 101, 102, 105, 120, 32, 115, 110, 97, 112, 115, 104, 111, 116, 32, 115, 101, 114, 105, 97, 108, 105, 122, 97, 98, 108, 101, 32, 115, 116, 114, 105, 99, 116]⟩ : ByteArray).size)] trivial ⟨(by decide), trivial⟩ (by kernel_rfl) (by kernel_rfl) (by kernel_rfl) ?_
      refine r_out (by kernel_rfl) ?_
      refine go_then (by kernel_rfl) ?_
      refine go_exit rfl ?_
      refine r_in ?_
      refine o_batch 0 [] [.p, .p, .p] [(7, .int .i64 30), (8, .int .i64 31), (4, .int .i64 31)] [] trivial trivial (by kernel_rfl) (by kernel_rfl) (by kernel_rfl) ?_
      refine r_out (by kernel_rfl) ?_
      refine go_again ?_
      refine go_gen [(0, .func (.yield l) #[] #[]), (2, .int .i64 3), (3, .int .i64 29), (4, .int .i64 31)] (by kernel_rfl) ?_
      intro _
      replace hI := hI.pick (L' := [B y4.2]) [0] (by decide) rfl
      refine go_seq ?_
      refine go_seq ?_
      refine r_in ?_
      refine o_batch 0 [] [.p, .p] [(5, .int .i64 31), (6, .bool true)] [] trivial trivial (by kernel_rfl) (by kernel_rfl) (by kernel_rfl) ?_
      refine r_out (by kernel_rfl) ?_
      refine go_then (by kernel_rfl) ?_
      refine go_skip ?_
      refine go_seq ?_
      refine go_block ?_
      refine go_seq ?_
      refine go_seq ?_
      refine r_in ?_
      refine o_batch 0 [] [.p, .p, .p, .p, .x, .p, .p] [(9, .int .i64 31), (10, .bool true), (11, .bool true), (12, .int .i64 31), (13, .int .u8 97), (14, .bool true), (15, .bool true)] [(31, (⟨#[114, 101, 97, 100, 45, 99, 111, 109, 109, 105, 116, 116, 101, 100, 32, 99, 117, 114, 115, 111, 114, 45, 115, 116, 97, 98, 108, 101, 32, 114, 101, 97, 100, 45, 97, 116, 111, 109, 105, 99, 32, 99, 97, 117, 115, 97, 108, 32, 112, 114, 101, 102, 105, 120, 32, 115, 110, 97, 112, 115, 104, 111, 116, 32, 115, 101, 114, 105, 97, 108, 105, 122, 97, 98, 108, 101, 32, 115, 116, 114, 105, 99, 116]⟩ : ByteArray).size)] trivial ⟨(by decide), trivial⟩ (by kernel_rfl) (by kernel_rfl) (by kernel_rfl) ?_
      refine r_out (by kernel_rfl) ?_
      refine go_then (by kernel_rfl) ?_
      refine go_exit rfl ?_
      refine r_in ?_
      refine o_batch 0 [] [.p, .p, .p] [(7, .int .i64 31), (8, .int .i64 32), (4, .int .i64 32)] [] trivial trivial (by kernel_rfl) (by kernel_rfl) (by kernel_rfl) ?_
      refine r_out (by kernel_rfl) ?_
      refine go_again ?_
      refine go_gen [(0, .func (.yield l) #[] #[]), (2, .int .i64 3), (3, .int .i64 29), (4, .int .i64 32)] (by kernel_rfl) ?_
      intro _
      replace hI := hI.pick (L' := [B y4.2]) [0] (by decide) rfl
      refine go_seq ?_
      refine go_seq ?_
      refine r_in ?_
      refine o_batch 0 [] [.p, .p] [(5, .int .i64 32), (6, .bool true)] [] trivial trivial (by kernel_rfl) (by kernel_rfl) (by kernel_rfl) ?_
      refine r_out (by kernel_rfl) ?_
      refine go_then (by kernel_rfl) ?_
      refine go_skip ?_
      refine go_seq ?_
      refine go_block ?_
      refine go_seq ?_
      refine go_seq ?_
      refine r_in ?_
      refine o_batch 0 [] [.p, .p, .p, .p, .x, .p, .p] [(9, .int .i64 32), (10, .bool true), (11, .bool true), (12, .int .i64 32), (13, .int .u8 100), (14, .bool true), (15, .bool true)] [(32, (⟨#[114, 101, 97, 100, 45, 99, 111, 109, 109, 105, 116, 116, 101, 100, 32, 99, 117, 114, 115, 111, 114, 45, 115, 116, 97, 98, 108, 101, 32, 114, 101, 97, 100, 45, 97, 116, 111, 109, 105, 99, 32, 99, 97, 117, 115, 97, 108, 32, 112, 114, 101, 102, 105, 120, 32, 115, 110, 97, 112, 115, 104, 111, 116, 32, 115, 101, 114, 105, 97, 108, 105, 122, 97, 98, 108, 101, 32, 115, 116, 114, 105, 99, 116]⟩ : ByteArray).size)] trivial ⟨(by decide), trivial⟩ (by kernel_rfl) (by kernel_rfl) (by kernel_rfl) ?_
      refine r_out (by kernel_rfl) ?_
      refine go_then (by kernel_rfl) ?_
      refine go_exit rfl ?_
      refine r_in ?_
      refine o_batch 0 [] [.p, .p, .p] [(7, .int .i64 32), (8, .int .i64 33), (4, .int .i64 33)] [] trivial trivial (by kernel_rfl) (by kernel_rfl) (by kernel_rfl) ?_
      refine r_out (by kernel_rfl) ?_
      refine go_again ?_
      refine go_gen [(0, .func (.yield l) #[] #[]), (2, .int .i64 3), (3, .int .i64 29), (4, .int .i64 33)] (by kernel_rfl) ?_
      intro _
      replace hI := hI.pick (L' := [B y4.2]) [0] (by decide) rfl
      refine go_seq ?_
      refine go_seq ?_
      refine r_in ?_
      refine o_batch 0 [] [.p, .p] [(5, .int .i64 33), (6, .bool true)] [] trivial trivial (by kernel_rfl) (by kernel_rfl) (by kernel_rfl) ?_
      refine r_out (by kernel_rfl) ?_
      refine go_then (by kernel_rfl) ?_
      refine go_skip ?_
      refine go_seq ?_
      refine go_block ?_
      refine go_seq ?_
      refine go_seq ?_
      refine r_in ?_
      refine o_batch 0 [] [.p, .p, .p, .p, .x, .p, .p] [(9, .int .i64 33), (10, .bool true), (11, .bool true), (12, .int .i64 33), (13, .int .u8 45), (14, .bool true), (15, .bool true)] [(33, (⟨#[114, 101, 97, 100, 45, 99, 111, 109, 109, 105, 116, 116, 101, 100, 32, 99, 117, 114, 115, 111, 114, 45, 115, 116, 97, 98, 108, 101, 32, 114, 101, 97, 100, 45, 97, 116, 111, 109, 105, 99, 32, 99, 97, 117, 115, 97, 108, 32, 112, 114, 101, 102, 105, 120, 32, 115, 110, 97, 112, 115, 104, 111, 116, 32, 115, 101, 114, 105, 97, 108, 105, 122, 97, 98, 108, 101, 32, 115, 116, 114, 105, 99, 116]⟩ : ByteArray).size)] trivial ⟨(by decide), trivial⟩ (by kernel_rfl) (by kernel_rfl) (by kernel_rfl) ?_
      refine r_out (by kernel_rfl) ?_
      refine go_then (by kernel_rfl) ?_
      refine go_exit rfl ?_
      refine r_in ?_
      refine o_batch 0 [] [.p, .p, .p] [(7, .int .i64 33), (8, .int .i64 34), (4, .int .i64 34)] [] trivial trivial (by kernel_rfl) (by kernel_rfl) (by kernel_rfl) ?_
      refine r_out (by kernel_rfl) ?_
      refine go_again ?_
      refine go_gen [(0, .func (.yield l) #[] #[]), (2, .int .i64 3), (3, .int .i64 29), (4, .int .i64 34)] (by kernel_rfl) ?_
      intro _
      replace hI := hI.pick (L' := [B y4.2]) [0] (by decide) rfl
      refine go_seq ?_
      refine go_seq ?_
      refine r_in ?_
      refine o_batch 0 [] [.p, .p] [(5, .int .i64 34), (6, .bool true)] [] trivial trivial (by kernel_rfl) (by kernel_rfl) (by kernel_rfl) ?_
      refine r_out (by kernel_rfl) ?_
      refine go_then (by kernel_rfl) ?_
      refine go_skip ?_
      refine go_seq ?_
      refine go_block ?_
      refine go_seq ?_
      refine go_seq ?_
      refine r_in ?_
      refine o_batch 0 [] [.p, .p, .p, .p, .x, .p, .p] [(9, .int .i64 34), (10, .bool true), (11, .bool true), (12, .int .i64 34), (13, .int .u8 97), (14, .bool true), (15, .bool true)] [(34, (⟨#[114, 101, 97, 100, 45, 99, 111, 109, 109, 105, 116, 116, 101, 100, 32, 99, 117, 114, 115, 111, 114, 45, 115, 116, 97, 98, 108, 101, 32, 114, 101, 97, 100, 45, 97, 116, 111, 109, 105, 99, 32, 99, 97, 117, 115, 97, 108, 32, 112, 114, 101, 102, 105, 120, 32, 115, 110, 97, 112, 115, 104, 111, 116, 32, 115, 101, 114, 105, 97, 108, 105, 122, 97, 98, 108, 101, 32, 115, 116, 114, 105, 99, 116]⟩ : ByteArray).size)] trivial ⟨(by decide), trivial⟩ (by kernel_rfl) (by kernel_rfl) (by kernel_rfl) ?_
      refine r_out (by kernel_rfl) ?_
      refine go_then (by kernel_rfl) ?_
      refine go_exit rfl ?_
      refine r_in ?_
      refine o_batch 0 [] [.p, .p, .p] [(7, .int .i64 34), (8, .int .i64 35), (4, .int .i64 35)] [] trivial trivial (by kernel_rfl) (by kernel_rfl) (by kernel_rfl) ?_
      refine r_out (by kernel_rfl) ?_
      refine go_again ?_
      refine go_gen [(0, .func (.yield l) #[] #[]), (2, .int .i64 3), (3, .int .i64 29), (4, .int .i64 35)] (by kernel_rfl) ?_
      intro _
      replace hI := hI.pick (L' := [B y4.2]) [0] (by decide) rfl
      refine go_seq ?_
      refine go_seq ?_
      refine r_in ?_
      refine o_batch 0 [] [.p, .p] [(5, .int .i64 35), (6, .bool true)] [] trivial trivial (by kernel_rfl) (by kernel_rfl) (by kernel_rfl) ?_
      refine r_out (by kernel_rfl) ?_
      refine go_then (by kernel_rfl) ?_
      refine go_skip ?_
      refine go_seq ?_
      refine go_block ?_
      refine go_seq ?_
      refine go_seq ?_
      refine r_in ?_
      refine o_batch 0 [] [.p, .p, .p, .p, .x, .p, .p] [(9, .int .i64 35), (10, .bool true), (11, .bool true), (12, .int .i64 35), (13, .int .u8 116), (14, .bool true), (15, .bool true)] [(35, (⟨#[114, 101, 97, 100, 45, 99, 111, 109, 109, 105, 116, 116, 101, 100, 32, 99, 117, 114, 115, 111, 114, 45, 115, 116, 97, 98, 108, 101, 32, 114, 101, 97, 100, 45, 97, 116, 111, 109, 105, 99, 32, 99, 97, 117, 115, 97, 108, 32, 112, 114, 101, 102, 105, 120, 32, 115, 110, 97, 112, 115, 104, 111, 116, 32, 115, 101, 114, 105, 97, 108, 105, 122, 97, 98, 108, 101, 32, 115, 116, 114, 105, 99, 116]⟩ : ByteArray).size)] trivial ⟨(by decide), trivial⟩ (by kernel_rfl) (by kernel_rfl) (by kernel_rfl) ?_
      refine r_out (by kernel_rfl) ?_
      refine go_then (by kernel_rfl) ?_
      refine go_exit rfl ?_
      refine r_in ?_
      refine o_batch 0 [] [.p, .p, .p] [(7, .int .i64 35), (8, .int .i64 36), (4, .int .i64 36)] [] trivial trivial (by kernel_rfl) (by kernel_rfl) (by kernel_rfl) ?_
      refine r_out (by kernel_rfl) ?_
      refine go_again ?_
      refine go_gen [(0, .func (.yield l) #[] #[]), (2, .int .i64 3), (3, .int .i64 29), (4, .int .i64 36)] (by kernel_rfl) ?_
      intro _
      replace hI := hI.pick (L' := [B y4.2]) [0] (by decide) rfl
      refine go_seq ?_
      refine go_seq ?_
      refine r_in ?_
      refine o_batch 0 [] [.p, .p] [(5, .int .i64 36), (6, .bool true)] [] trivial trivial (by kernel_rfl) (by kernel_rfl) (by kernel_rfl) ?_
      refine r_out (by kernel_rfl) ?_
      refine go_then (by kernel_rfl) ?_
      refine go_skip ?_
      refine go_seq ?_
      refine go_block ?_
      refine go_seq ?_
      refine go_seq ?_
      refine r_in ?_
      refine o_batch 0 [] [.p, .p, .p, .p, .x, .p, .p] [(9, .int .i64 36), (10, .bool true), (11, .bool true), (12, .int .i64 36), (13, .int .u8 111), (14, .bool true), (15, .bool true)] [(36, (⟨#[114, 101, 97, 100, 45, 99, 111, 109, 109, 105, 116, 116, 101, 100, 32, 99, 117, 114, 115, 111, 114, 45, 115, 116, 97, 98, 108, 101, 32, 114, 101, 97, 100, 45, 97, 116, 111, 109, 105, 99, 32, 99, 97, 117, 115, 97, 108, 32, 112, 114, 101, 102, 105, 120, 32, 115, 110, 97, 112, 115, 104, 111, 116, 32, 115, 101, 114, 105, 97, 108, 105, 122, 97, 98, 108, 101, 32, 115, 116, 114, 105, 99, 116]⟩ : ByteArray).size)] trivial ⟨(by decide), trivial⟩ (by kernel_rfl) (by kernel_rfl) (by kernel_rfl) ?_
      refine r_out (by kernel_rfl) ?_
      refine go_then (by kernel_rfl) ?_
      refine go_exit rfl ?_
      refine r_in ?_
      refine o_batch 0 [] [.p, .p, .p] [(7, .int .i64 36), (8, .int .i64 37), (4, .int .i64 37)] [] trivial trivial (by kernel_rfl) (by kernel_rfl) (by kernel_rfl) ?_
      refine r_out (by kernel_rfl) ?_
      refine go_again ?_
      refine go_gen [(0, .func (.yield l) #[] #[]), (2, .int .i64 3), (3, .int .i64 29), (4, .int .i64 37)] (by kernel_rfl) ?_
      intro _
      replace hI := hI.pick (L' := [B y4.2]) [0] (by decide) rfl
      refine go_seq ?_
      refine go_seq ?_
      refine r_in ?_
      refine o_batch 0 [] [.p, .p] [(5, .int .i64 37), (6, .bool true)] [] trivial trivial (by kernel_rfl) (by kernel_rfl) (by kernel_rfl) ?_
      refine r_out (by kernel_rfl) ?_
      refine go_then (by kernel_rfl) ?_
      refine go_skip ?_
      refine go_seq ?_
      refine go_block ?_
      refine go_seq ?_
      refine go_seq ?_
      refine r_in ?_
      refine o_batch 0 [] [.p, .p, .p, .p, .x, .p, .p] [(9, .int .i64 37), (10, .bool true), (11, .bool true), (12, .int .i64 37), (13, .int .u8 109), (14, .bool true), (15, .bool true)] [(37, (⟨#[114, 101, 97, 100, 45, 99, 111, 109, 109, 105, 116, 116, 101, 100, 32, 99, 117, 114, 115, 111, 114, 45, 115, 116, 97, 98, 108, 101, 32, 114, 101, 97, 100, 45, 97, 116, 111, 109, 105, 99, 32, 99, 97, 117, 115, 97, 108, 32, 112, 114, 101, 102, 105, 120, 32, 115, 110, 97, 112, 115, 104, 111, 116, 32, 115, 101, 114, 105, 97, 108, 105, 122, 97, 98, 108, 101, 32, 115, 116, 114, 105, 99, 116]⟩ : ByteArray).size)] trivial ⟨(by decide), trivial⟩ (by kernel_rfl) (by kernel_rfl) (by kernel_rfl) ?_
      refine r_out (by kernel_rfl) ?_
      refine go_then (by kernel_rfl) ?_
      refine go_exit rfl ?_
      refine r_in ?_
      refine o_batch 0 [] [.p, .p, .p] [(7, .int .i64 37), (8, .int .i64 38), (4, .int .i64 38)] [] trivial trivial (by kernel_rfl) (by kernel_rfl) (by kernel_rfl) ?_
      refine r_out (by kernel_rfl) ?_
      refine go_again ?_
      refine go_gen [(0, .func (.yield l) #[] #[]), (2, .int .i64 3), (3, .int .i64 29), (4, .int .i64 38)] (by kernel_rfl) ?_
      intro _
      replace hI := hI.pick (L' := [B y4.2]) [0] (by decide) rfl
      refine go_seq ?_
      refine go_seq ?_
      refine r_in ?_
      refine o_batch 0 [] [.p, .p] [(5, .int .i64 38), (6, .bool true)] [] trivial trivial (by kernel_rfl) (by kernel_rfl) (by kernel_rfl) ?_
      refine r_out (by kernel_rfl) ?_
      refine go_then (by kernel_rfl) ?_
      refine go_skip ?_
      refine go_seq ?_
      refine go_block ?_
      refine go_seq ?_
      refine go_seq ?_
      refine r_in ?_
      refine o_batch 0 [] [.p, .p, .p, .p, .x, .p, .p] [(9, .int .i64 38), (10, .bool true), (11, .bool true), (12, .int .i64 38), (13, .int .u8 105), (14, .bool true), (15, .bool true)] [(38, (⟨#[114, 101, 97, 100, 45, 99, 111, 109, 109, 105, 116, 116, 101, 100, 32, 99, 117, 114, 115, 111, 114, 45, 115, 116, 97, 98, 108, 101, 32, 114, 101, 97, 100, 45, 97, 116, 111, 109, 105, 99, 32, 99, 97, 117, 115, 97, 108, 32, 112, 114, 101, 102, 105, 120, 32, 115, 110, 97, 112, 115, 104, 111, 116, 32, 115, 101, 114, 105, 97, 108, 105, 122, 97, 98, 108, 101, 32, 115, 116, 114, 105, 99, 116]⟩ : ByteArray).size)] trivial ⟨(by decide), trivial⟩ (by kernel_rfl) (by kernel_rfl) (by kernel_rfl) ?_
      refine r_out (by kernel_rfl) ?_
      refine go_then (by kernel_rfl) ?_
      refine go_exit rfl ?_
      refine r_in ?_
      refine o_batch 0 [] [.p, .p, .p] [(7, .int .i64 38), (8, .int .i64 39), (4, .int .i64 39)] [] trivial trivial (by kernel_rfl) (by kernel_rfl) (by kernel_rfl) ?_
      refine r_out (by kernel_rfl) ?_
      refine go_again ?_
      refine go_gen [(0, .func (.yield l) #[] #[]), (2, .int .i64 3), (3, .int .i64 29), (4, .int .i64 39)] (by kernel_rfl) ?_
      intro _
      replace hI := hI.pick (L' := [B y4.2]) [0] (by decide) rfl
      refine go_seq ?_
      refine go_seq ?_
      refine r_in ?_
      refine o_batch 0 [] [.p, .p] [(5, .int .i64 39), (6, .bool true)] [] trivial trivial (by kernel_rfl) (by kernel_rfl) (by kernel_rfl) ?_
      refine r_out (by kernel_rfl) ?_
      refine go_then (by kernel_rfl) ?_
      refine go_skip ?_
      refine go_seq ?_
      refine go_block ?_
      refine go_seq ?_
      refine go_seq ?_
      refine r_in ?_
      refine o_batch 0 [] [.p, .p, .p, .p, .x, .p, .p] [(9, .int .i64 39), (10, .bool true), (11, .bool true), (12, .int .i64 39), (13, .int .u8 99), (14, .bool true), (15, .bool true)] [(39, (⟨#[114, 101, 97, 100, 45, 99, 111, 109, 109, 105, 116, 116, 101, 100, 32, 99, 117, 114, 115, 111, 114, 45, 115, 116, 97, 98, 108, 101, 32, 114, 101, 97, 100, 45, 97, 116, 111, 109, 105, 99, 32, 99, 97, 117, 115, 97, 108, 32, 112, 114, 101, 102, 105, 120, 32, 115, 110, 97, 112, 115, 104, 111, 116, 32, 115, 101, 114, 105, 97, 108, 105, 122, 97, 98, 108, 101, 32, 115, 116, 114, 105, 99, 116]⟩ : ByteArray).size)] trivial ⟨(by decide), trivial⟩ (by kernel_rfl) (by kernel_rfl) (by kernel_rfl) ?_
      refine r_out (by kernel_rfl) ?_
      refine go_then (by kernel_rfl) ?_
      refine go_exit rfl ?_
      refine r_in ?_
      refine o_batch 0 [] [.p, .p, .p] [(7, .int .i64 39), (8, .int .i64 40), (4, .int .i64 40)] [] trivial trivial (by kernel_rfl) (by kernel_rfl) (by kernel_rfl) ?_
      refine r_out (by kernel_rfl) ?_
      refine go_again ?_
      refine go_gen [(0, .func (.yield l) #[] #[]), (2, .int .i64 3), (3, .int .i64 29), (4, .int .i64 40)] (by kernel_rfl) ?_
      intro _
      replace hI := hI.pick (L' := [B y4.2]) [0] (by decide) rfl
      refine go_seq ?_
      refine go_seq ?_
      refine r_in ?_
      refine o_batch 0 [] [.p, .p] [(5, .int .i64 40), (6, .bool true)] [] trivial trivial (by kernel_rfl) (by kernel_rfl) (by kernel_rfl) ?_
      refine r_out (by kernel_rfl) ?_
      refine go_then (by kernel_rfl) ?_
      refine go_skip ?_
      refine go_seq ?_
      refine go_block ?_
      refine go_seq ?_
      refine go_seq ?_
      refine r_in ?_
      refine o_batch 0 [] [.p, .p, .p, .p, .x, .p, .p] [(9, .int .i64 40), (10, .bool true), (11, .bool true), (12, .int .i64 40), (13, .int .u8 32), (14, .bool false), (15, .bool false)] [(40, (⟨#[114, 101, 97, 100, 45, 99, 111, 109, 109, 105, 116, 116, 101, 100, 32, 99, 117, 114, 115, 111, 114, 45, 115, 116, 97, 98, 108, 101, 32, 114, 101, 97, 100, 45, 97, 116, 111, 109, 105, 99, 32, 99, 97, 117, 115, 97, 108, 32, 112, 114, 101, 102, 105, 120, 32, 115, 110, 97, 112, 115, 104, 111, 116, 32, 115, 101, 114, 105, 97, 108, 105, 122, 97, 98, 108, 101, 32, 115, 116, 114, 105, 99, 116]⟩ : ByteArray).size)] trivial ⟨(by decide), trivial⟩ (by kernel_rfl) (by kernel_rfl) (by kernel_rfl) ?_
      refine r_out (by kernel_rfl) ?_
      refine go_else (by kernel_rfl) ?_
      refine go_skip ?_
      refine go_seq ?_
      refine go_seq ?_
      refine r_in ?_
      refine o_batch 0 [] [.p, .p, .p, .p, .x] [(16, .func (.yield l) #[] #[]), (17, .int .i64 3), (18, .int .i64 29), (19, .int .i64 40), (20, .string (⟨#[114, 101, 97, 100, 45, 97, 116, 111, 109, 105, 99]⟩ : ByteArray))] [(29, (40 : Int).toNat + 1), (40, (⟨#[114, 101, 97, 100, 45, 99, 111, 109, 109, 105, 116, 116, 101, 100, 32, 99, 117, 114, 115, 111, 114, 45, 115, 116, 97, 98, 108, 101, 32, 114, 101, 97, 100, 45, 97, 116, 111, 109, 105, 99, 32, 99, 97, 117, 115, 97, 108, 32, 112, 114, 101, 102, 105, 120, 32, 115, 110, 97, 112, 115, 104, 111, 116, 32, 115, 101, 114, 105, 97, 108, 105, 122, 97, 98, 108, 101, 32, 115, 116, 114, 105, 99, 116]⟩ : ByteArray).size + 1)] trivial ⟨(by decide), (by decide), trivial⟩ (by kernel_rfl) (by kernel_rfl) (by kernel_rfl) ?_
      replace H := bind_some H
      obtain ⟨y7, hy8, H⟩ := H
      refine o_yield 5 _ rfl (by kernel_rfl) l _ _ _ _ rfl (by kernel_rfl) (by kernel_rfl) (hY _ _ _ _ _ hy8 hI) ?_
      clear hI
      rintro _ _ ⟨rfl, hI⟩
      refine o_batch 6 [] [.p] [(22, .bool (!y7.1))] [] trivial trivial (by kernel_rfl) (by kernel_rfl) (by kernel_rfl) ?_
      refine r_out (by kernel_rfl) ?_
      replace H := cond_some H
      rcases H with ⟨hc9, H⟩ | ⟨hc9, H⟩
      · refine go_then' (t := !y7.1) (by kernel_rfl) hc9 ?_
        replace H := Option.some.inj H
        subst H
        exact go_return (.tuple #[]) Try.func21 (by kernel_rfl) ⟨rfl, hI⟩
      · refine go_else' (t := !y7.1) (by kernel_rfl) hc9 ?_
        refine go_skip ?_
        refine r_in ?_
        refine o_batch 0 [] [.p, .p, .p, .p, .p, .p] [(23, .int .i64 3), (24, .int .i64 4), (25, .int .i64 40), (26, .int .i64 41), (2, .int .i64 4), (3, .int .i64 41)] [] trivial trivial (by kernel_rfl) (by kernel_rfl) (by kernel_rfl) ?_
        refine r_out (by kernel_rfl) ?_
        refine go_inBlock ?_
        refine r_in ?_
        refine o_batch 0 [] [.p, .p, .p] [(7, .int .i64 40), (8, .int .i64 41), (4, .int .i64 41)] [] trivial trivial (by kernel_rfl) (by kernel_rfl) (by kernel_rfl) ?_
        refine r_out (by kernel_rfl) ?_
        refine go_again ?_
        refine go_gen [(0, .func (.yield l) #[] #[]), (2, .int .i64 4), (3, .int .i64 41), (4, .int .i64 41)] (by kernel_rfl) ?_
        intro _
        replace hI := hI.pick (L' := [B y7.2]) [0] (by decide) rfl
        refine go_seq ?_
        refine go_seq ?_
        refine r_in ?_
        refine o_batch 0 [] [.p, .p] [(5, .int .i64 41), (6, .bool true)] [] trivial trivial (by kernel_rfl) (by kernel_rfl) (by kernel_rfl) ?_
        refine r_out (by kernel_rfl) ?_
        refine go_then (by kernel_rfl) ?_
        refine go_skip ?_
        refine go_seq ?_
        refine go_block ?_
        refine go_seq ?_
        refine go_seq ?_
        refine r_in ?_
        refine o_batch 0 [] [.p, .p, .p, .p, .x, .p, .p] [(9, .int .i64 41), (10, .bool true), (11, .bool true), (12, .int .i64 41), (13, .int .u8 99), (14, .bool true), (15, .bool true)] [(41, (⟨#[114, 101, 97, 100, 45, 99, 111, 109, 109, 105, 116, 116, 101, 100, 32, 99, 117, 114, 115, 111, 114, 45, 115, 116, 97, 98, 108, 101, 32, 114, 101, 97, 100, 45, 97, 116, 111, 109, 105, 99, 32, 99, 97, 117, 115, 97, 108, 32, 112, 114, 101, 102, 105, 120, 32, 115, 110, 97, 112, 115, 104, 111, 116, 32, 115, 101, 114, 105, 97, 108, 105, 122, 97, 98, 108, 101, 32, 115, 116, 114, 105, 99, 116]⟩ : ByteArray).size)] trivial ⟨(by decide), trivial⟩ (by kernel_rfl) (by kernel_rfl) (by kernel_rfl) ?_
        refine r_out (by kernel_rfl) ?_
        refine go_then (by kernel_rfl) ?_
        refine go_exit rfl ?_
        refine r_in ?_
        refine o_batch 0 [] [.p, .p, .p] [(7, .int .i64 41), (8, .int .i64 42), (4, .int .i64 42)] [] trivial trivial (by kernel_rfl) (by kernel_rfl) (by kernel_rfl) ?_
        refine r_out (by kernel_rfl) ?_
        refine go_again ?_
        refine go_gen [(0, .func (.yield l) #[] #[]), (2, .int .i64 4), (3, .int .i64 41), (4, .int .i64 42)] (by kernel_rfl) ?_
        intro _
        replace hI := hI.pick (L' := [B y7.2]) [0] (by decide) rfl
        refine go_seq ?_
        refine go_seq ?_
        refine r_in ?_
        refine o_batch 0 [] [.p, .p] [(5, .int .i64 42), (6, .bool true)] [] trivial trivial (by kernel_rfl) (by kernel_rfl) (by kernel_rfl) ?_
        refine r_out (by kernel_rfl) ?_
        refine go_then (by kernel_rfl) ?_
        refine go_skip ?_
        refine go_seq ?_
        refine go_block ?_
        refine go_seq ?_
        refine go_seq ?_
        refine r_in ?_
        refine o_batch 0 [] [.p, .p, .p, .p, .x, .p, .p] [(9, .int .i64 42), (10, .bool true), (11, .bool true), (12, .int .i64 42), (13, .int .u8 97), (14, .bool true), (15, .bool true)] [(42, (⟨#[114, 101, 97, 100, 45, 99, 111, 109, 109, 105, 116, 116, 101, 100, 32, 99, 117, 114, 115, 111, 114, 45, 115, 116, 97, 98, 108, 101, 32, 114, 101, 97, 100, 45, 97, 116, 111, 109, 105, 99, 32, 99, 97, 117, 115, 97, 108, 32, 112, 114, 101, 102, 105, 120, 32, 115, 110, 97, 112, 115, 104, 111, 116, 32, 115, 101, 114, 105, 97, 108, 105, 122, 97, 98, 108, 101, 32, 115, 116, 114, 105, 99, 116]⟩ : ByteArray).size)] trivial ⟨(by decide), trivial⟩ (by kernel_rfl) (by kernel_rfl) (by kernel_rfl) ?_
        refine r_out (by kernel_rfl) ?_
        refine go_then (by kernel_rfl) ?_
        refine go_exit rfl ?_
        refine r_in ?_
        refine o_batch 0 [] [.p, .p, .p] [(7, .int .i64 42), (8, .int .i64 43), (4, .int .i64 43)] [] trivial trivial (by kernel_rfl) (by kernel_rfl) (by kernel_rfl) ?_
        refine r_out (by kernel_rfl) ?_
        refine go_again ?_
        refine go_gen [(0, .func (.yield l) #[] #[]), (2, .int .i64 4), (3, .int .i64 41), (4, .int .i64 43)] (by kernel_rfl) ?_
        intro _
        replace hI := hI.pick (L' := [B y7.2]) [0] (by decide) rfl
        refine go_seq ?_
        refine go_seq ?_
        refine r_in ?_
        refine o_batch 0 [] [.p, .p] [(5, .int .i64 43), (6, .bool true)] [] trivial trivial (by kernel_rfl) (by kernel_rfl) (by kernel_rfl) ?_
        refine r_out (by kernel_rfl) ?_
        refine go_then (by kernel_rfl) ?_
        refine go_skip ?_
        refine go_seq ?_
        refine go_block ?_
        refine go_seq ?_
        refine go_seq ?_
        refine r_in ?_
        refine o_batch 0 [] [.p, .p, .p, .p, .x, .p, .p] [(9, .int .i64 43), (10, .bool true), (11, .bool true), (12, .int .i64 43), (13, .int .u8 117), (14, .bool true), (15, .bool true)] [(43, (⟨#[114, 101, 97, 100, 45, 99, 111, 109, 109, 105, 116, 116, 101, 100, 32, 99, 117, 114, 115, 111, 114, 45, 115, 116, 97, 98, 108, 101, 32, 114, 101, 97, 100, 45, 97, 116, 111, 109, 105, 99, 32, 99, 97, 117, 115, 97, 108, 32, 112, 114, 101, 102, 105, 120, 32, 115, 110, 97, 112, 115, 104, 111, 116, 32, 115, 101, 114, 105, 97, 108, 105, 122, 97, 98, 108, 101, 32, 115, 116, 114, 105, 99, 116]⟩ : ByteArray).size)] trivial ⟨(by decide), trivial⟩ (by kernel_rfl) (by kernel_rfl) (by kernel_rfl) ?_
        refine r_out (by kernel_rfl) ?_
        refine go_then (by kernel_rfl) ?_
        refine go_exit rfl ?_
        refine r_in ?_
        refine o_batch 0 [] [.p, .p, .p] [(7, .int .i64 43), (8, .int .i64 44), (4, .int .i64 44)] [] trivial trivial (by kernel_rfl) (by kernel_rfl) (by kernel_rfl) ?_
        refine r_out (by kernel_rfl) ?_
        refine go_again ?_
        refine go_gen [(0, .func (.yield l) #[] #[]), (2, .int .i64 4), (3, .int .i64 41), (4, .int .i64 44)] (by kernel_rfl) ?_
        intro _
        replace hI := hI.pick (L' := [B y7.2]) [0] (by decide) rfl
        refine go_seq ?_
        refine go_seq ?_
        refine r_in ?_
        refine o_batch 0 [] [.p, .p] [(5, .int .i64 44), (6, .bool true)] [] trivial trivial (by kernel_rfl) (by kernel_rfl) (by kernel_rfl) ?_
        refine r_out (by kernel_rfl) ?_
        refine go_then (by kernel_rfl) ?_
        refine go_skip ?_
        refine go_seq ?_
        refine go_block ?_
        refine go_seq ?_
        refine go_seq ?_
        refine r_in ?_
        refine o_batch 0 [] [.p, .p, .p, .p, .x, .p, .p] [(9, .int .i64 44), (10, .bool true), (11, .bool true), (12, .int .i64 44), (13, .int .u8 115), (14, .bool true), (15, .bool true)] [(44, (⟨#[114, 101, 97, 100, 45, 99, 111, 109, 109, 105, 116, 116, 101, 100, 32, 99, 117, 114, 115, 111, 114, 45, 115, 116, 97, 98, 108, 101, 32, 114, 101, 97, 100, 45, 97, 116, 111, 109, 105, 99, 32, 99, 97, 117, 115, 97, 108, 32, 112, 114, 101, 102, 105, 120, 32, 115, 110, 97, 112, 115, 104, 111, 116, 32, 115, 101, 114, 105, 97, 108, 105, 122, 97, 98, 108, 101, 32, 115, 116, 114, 105, 99, 116]⟩ : ByteArray).size)] trivial ⟨(by decide), trivial⟩ (by kernel_rfl) (by kernel_rfl) (by kernel_rfl) ?_
        refine r_out (by kernel_rfl) ?_
        refine go_then (by kernel_rfl) ?_
        refine go_exit rfl ?_
        refine r_in ?_
        refine o_batch 0 [] [.p, .p, .p] [(7, .int .i64 44), (8, .int .i64 45), (4, .int .i64 45)] [] trivial trivial (by kernel_rfl) (by kernel_rfl) (by kernel_rfl) ?_
        refine r_out (by kernel_rfl) ?_
        refine go_again ?_
        refine go_gen [(0, .func (.yield l) #[] #[]), (2, .int .i64 4), (3, .int .i64 41), (4, .int .i64 45)] (by kernel_rfl) ?_
        intro _
        replace hI := hI.pick (L' := [B y7.2]) [0] (by decide) rfl
        refine go_seq ?_
        refine go_seq ?_
        refine r_in ?_
        refine o_batch 0 [] [.p, .p] [(5, .int .i64 45), (6, .bool true)] [] trivial trivial (by kernel_rfl) (by kernel_rfl) (by kernel_rfl) ?_
        refine r_out (by kernel_rfl) ?_
        refine go_then (by kernel_rfl) ?_
        refine go_skip ?_
        refine go_seq ?_
        refine go_block ?_
        refine go_seq ?_
        refine go_seq ?_
        refine r_in ?_
        refine o_batch 0 [] [.p, .p, .p, .p, .x, .p, .p] [(9, .int .i64 45), (10, .bool true), (11, .bool true), (12, .int .i64 45), (13, .int .u8 97), (14, .bool true), (15, .bool true)] [(45, (⟨#[114, 101, 97, 100, 45, 99, 111, 109, 109, 105, 116, 116, 101, 100, 32, 99, 117, 114, 115, 111, 114, 45, 115, 116, 97, 98, 108, 101, 32, 114, 101, 97, 100, 45, 97, 116, 111, 109, 105, 99, 32, 99, 97, 117, 115, 97, 108, 32, 112, 114, 101, 102, 105, 120, 32, 115, 110, 97, 112, 115, 104, 111, 116, 32, 115, 101, 114, 105, 97, 108, 105, 122, 97, 98, 108, 101, 32, 115, 116, 114, 105, 99, 116]⟩ : ByteArray).size)] trivial ⟨(by decide), trivial⟩ (by kernel_rfl) (by kernel_rfl) (by kernel_rfl) ?_
        refine r_out (by kernel_rfl) ?_
        refine go_then (by kernel_rfl) ?_
        refine go_exit rfl ?_
        refine r_in ?_
        refine o_batch 0 [] [.p, .p, .p] [(7, .int .i64 45), (8, .int .i64 46), (4, .int .i64 46)] [] trivial trivial (by kernel_rfl) (by kernel_rfl) (by kernel_rfl) ?_
        refine r_out (by kernel_rfl) ?_
        refine go_again ?_
        refine go_gen [(0, .func (.yield l) #[] #[]), (2, .int .i64 4), (3, .int .i64 41), (4, .int .i64 46)] (by kernel_rfl) ?_
        intro _
        replace hI := hI.pick (L' := [B y7.2]) [0] (by decide) rfl
        refine go_seq ?_
        refine go_seq ?_
        refine r_in ?_
        refine o_batch 0 [] [.p, .p] [(5, .int .i64 46), (6, .bool true)] [] trivial trivial (by kernel_rfl) (by kernel_rfl) (by kernel_rfl) ?_
        refine r_out (by kernel_rfl) ?_
        refine go_then (by kernel_rfl) ?_
        refine go_skip ?_
        refine go_seq ?_
        refine go_block ?_
        refine go_seq ?_
        refine go_seq ?_
        refine r_in ?_
        refine o_batch 0 [] [.p, .p, .p, .p, .x, .p, .p] [(9, .int .i64 46), (10, .bool true), (11, .bool true), (12, .int .i64 46), (13, .int .u8 108), (14, .bool true), (15, .bool true)] [(46, (⟨#[114, 101, 97, 100, 45, 99, 111, 109, 109, 105, 116, 116, 101, 100, 32, 99, 117, 114, 115, 111, 114, 45, 115, 116, 97, 98, 108, 101, 32, 114, 101, 97, 100, 45, 97, 116, 111, 109, 105, 99, 32, 99, 97, 117, 115, 97, 108, 32, 112, 114, 101, 102, 105, 120, 32, 115, 110, 97, 112, 115, 104, 111, 116, 32, 115, 101, 114, 105, 97, 108, 105, 122, 97, 98, 108, 101, 32, 115, 116, 114, 105, 99, 116]⟩ : ByteArray).size)] trivial ⟨(by decide), trivial⟩ (by kernel_rfl) (by kernel_rfl) (by kernel_rfl) ?_
        refine r_out (by kernel_rfl) ?_
        refine go_then (by kernel_rfl) ?_
        refine go_exit rfl ?_
        refine r_in ?_
        refine o_batch 0 [] [.p, .p, .p] [(7, .int .i64 46), (8, .int .i64 47), (4, .int .i64 47)] [] trivial trivial (by kernel_rfl) (by kernel_rfl) (by kernel_rfl) ?_
        refine r_out (by kernel_rfl) ?_
        refine go_again ?_
        refine go_gen [(0, .func (.yield l) #[] #[]), (2, .int .i64 4), (3, .int .i64 41), (4, .int .i64 47)] (by kernel_rfl) ?_
        intro _
        replace hI := hI.pick (L' := [B y7.2]) [0] (by decide) rfl
        refine go_seq ?_
        refine go_seq ?_
        refine r_in ?_
        refine o_batch 0 [] [.p, .p] [(5, .int .i64 47), (6, .bool true)] [] trivial trivial (by kernel_rfl) (by kernel_rfl) (by kernel_rfl) ?_
        refine r_out (by kernel_rfl) ?_
        refine go_then (by kernel_rfl) ?_
        refine go_skip ?_
        refine go_seq ?_
        refine go_block ?_
        refine go_seq ?_
        refine go_seq ?_
        refine r_in ?_
        refine o_batch 0 [] [.p, .p, .p, .p, .x, .p, .p] [(9, .int .i64 47), (10, .bool true), (11, .bool true), (12, .int .i64 47), (13, .int .u8 32), (14, .bool false), (15, .bool false)] [(47, (⟨#[114, 101, 97, 100, 45, 99, 111, 109, 109, 105, 116, 116, 101, 100, 32, 99, 117, 114, 115, 111, 114, 45, 115, 116, 97, 98, 108, 101, 32, 114, 101, 97, 100, 45, 97, 116, 111, 109, 105, 99, 32, 99, 97, 117, 115, 97, 108, 32, 112, 114, 101, 102, 105, 120, 32, 115, 110, 97, 112, 115, 104, 111, 116, 32, 115, 101, 114, 105, 97, 108, 105, 122, 97, 98, 108, 101, 32, 115, 116, 114, 105, 99, 116]⟩ : ByteArray).size)] trivial ⟨(by decide), trivial⟩ (by kernel_rfl) (by kernel_rfl) (by kernel_rfl) ?_
        refine r_out (by kernel_rfl) ?_
        refine go_else (by kernel_rfl) ?_
        refine go_skip ?_
        refine go_seq ?_
        refine go_seq ?_
        refine r_in ?_
        refine o_batch 0 [] [.p, .p, .p, .p, .x] [(16, .func (.yield l) #[] #[]), (17, .int .i64 4), (18, .int .i64 41), (19, .int .i64 47), (20, .string (⟨#[99, 97, 117, 115, 97, 108]⟩ : ByteArray))] [(41, (47 : Int).toNat + 1), (47, (⟨#[114, 101, 97, 100, 45, 99, 111, 109, 109, 105, 116, 116, 101, 100, 32, 99, 117, 114, 115, 111, 114, 45, 115, 116, 97, 98, 108, 101, 32, 114, 101, 97, 100, 45, 97, 116, 111, 109, 105, 99, 32, 99, 97, 117, 115, 97, 108, 32, 112, 114, 101, 102, 105, 120, 32, 115, 110, 97, 112, 115, 104, 111, 116, 32, 115, 101, 114, 105, 97, 108, 105, 122, 97, 98, 108, 101, 32, 115, 116, 114, 105, 99, 116]⟩ : ByteArray).size + 1)] trivial ⟨(by decide), (by decide), trivial⟩ (by kernel_rfl) (by kernel_rfl) (by kernel_rfl) ?_
        replace H := bind_some H
        obtain ⟨y10, hy11, H⟩ := H
        refine o_yield 5 _ rfl (by kernel_rfl) l _ _ _ _ rfl (by kernel_rfl) (by kernel_rfl) (hY _ _ _ _ _ hy11 hI) ?_
        clear hI
        rintro _ _ ⟨rfl, hI⟩
        refine o_batch 6 [] [.p] [(22, .bool (!y10.1))] [] trivial trivial (by kernel_rfl) (by kernel_rfl) (by kernel_rfl) ?_
        refine r_out (by kernel_rfl) ?_
        replace H := cond_some H
        rcases H with ⟨hc12, H⟩ | ⟨hc12, H⟩
        · refine go_then' (t := !y10.1) (by kernel_rfl) hc12 ?_
          replace H := Option.some.inj H
          subst H
          exact go_return (.tuple #[]) Try.func21 (by kernel_rfl) ⟨rfl, hI⟩
        · refine go_else' (t := !y10.1) (by kernel_rfl) hc12 ?_
          refine go_skip ?_
          refine r_in ?_
          refine o_batch 0 [] [.p, .p, .p, .p, .p, .p] [(23, .int .i64 4), (24, .int .i64 5), (25, .int .i64 47), (26, .int .i64 48), (2, .int .i64 5), (3, .int .i64 48)] [] trivial trivial (by kernel_rfl) (by kernel_rfl) (by kernel_rfl) ?_
          refine r_out (by kernel_rfl) ?_
          refine go_inBlock ?_
          refine r_in ?_
          refine o_batch 0 [] [.p, .p, .p] [(7, .int .i64 47), (8, .int .i64 48), (4, .int .i64 48)] [] trivial trivial (by kernel_rfl) (by kernel_rfl) (by kernel_rfl) ?_
          refine r_out (by kernel_rfl) ?_
          refine go_again ?_
          refine go_gen [(0, .func (.yield l) #[] #[]), (2, .int .i64 5), (3, .int .i64 48), (4, .int .i64 48)] (by kernel_rfl) ?_
          intro _
          replace hI := hI.pick (L' := [B y10.2]) [0] (by decide) rfl
          refine go_seq ?_
          refine go_seq ?_
          refine r_in ?_
          refine o_batch 0 [] [.p, .p] [(5, .int .i64 48), (6, .bool true)] [] trivial trivial (by kernel_rfl) (by kernel_rfl) (by kernel_rfl) ?_
          refine r_out (by kernel_rfl) ?_
          refine go_then (by kernel_rfl) ?_
          refine go_skip ?_
          refine go_seq ?_
          refine go_block ?_
          refine go_seq ?_
          refine go_seq ?_
          refine r_in ?_
          refine o_batch 0 [] [.p, .p, .p, .p, .x, .p, .p] [(9, .int .i64 48), (10, .bool true), (11, .bool true), (12, .int .i64 48), (13, .int .u8 112), (14, .bool true), (15, .bool true)] [(48, (⟨#[114, 101, 97, 100, 45, 99, 111, 109, 109, 105, 116, 116, 101, 100, 32, 99, 117, 114, 115, 111, 114, 45, 115, 116, 97, 98, 108, 101, 32, 114, 101, 97, 100, 45, 97, 116, 111, 109, 105, 99, 32, 99, 97, 117, 115, 97, 108, 32, 112, 114, 101, 102, 105, 120, 32, 115, 110, 97, 112, 115, 104, 111, 116, 32, 115, 101, 114, 105, 97, 108, 105, 122, 97, 98, 108, 101, 32, 115, 116, 114, 105, 99, 116]⟩ : ByteArray).size)] trivial ⟨(by decide), trivial⟩ (by kernel_rfl) (by kernel_rfl) (by kernel_rfl) ?_
          refine r_out (by kernel_rfl) ?_
          refine go_then (by kernel_rfl) ?_
          refine go_exit rfl ?_
          refine r_in ?_
          refine o_batch 0 [] [.p, .p, .p] [(7, .int .i64 48), (8, .int .i64 49), (4, .int .i64 49)] [] trivial trivial (by kernel_rfl) (by kernel_rfl) (by kernel_rfl) ?_
          refine r_out (by kernel_rfl) ?_
          refine go_again ?_
          refine go_gen [(0, .func (.yield l) #[] #[]), (2, .int .i64 5), (3, .int .i64 48), (4, .int .i64 49)] (by kernel_rfl) ?_
          intro _
          replace hI := hI.pick (L' := [B y10.2]) [0] (by decide) rfl
          refine go_seq ?_
          refine go_seq ?_
          refine r_in ?_
          refine o_batch 0 [] [.p, .p] [(5, .int .i64 49), (6, .bool true)] [] trivial trivial (by kernel_rfl) (by kernel_rfl) (by kernel_rfl) ?_
          refine r_out (by kernel_rfl) ?_
          refine go_then (by kernel_rfl) ?_
          refine go_skip ?_
          refine go_seq ?_
          refine go_block ?_
          refine go_seq ?_
          refine go_seq ?_
          refine r_in ?_
          refine o_batch 0 [] [.p, .p, .p, .p, .x, .p, .p] [(9, .int .i64 49), (10, .bool true), (11, .bool true), (12, .int .i64 49), (13, .int .u8 114), (14, .bool true), (15, .bool true)] [(49, (⟨#[114, 101, 97, 100, 45, 99, 111, 109, 109, 105, 116, 116, 101, 100, 32, 99, 117, 114, 115, 111, 114, 45, 115, 116, 97, 98, 108, 101, 32, 114, 101, 97, 100, 45, 97, 116, 111, 109, 105, 99, 32, 99, 97, 117, 115, 97, 108, 32, 112, 114, 101, 102, 105, 120, 32, 115, 110, 97, 112, 115, 104, 111, 116, 32, 115, 101, 114, 105, 97, 108, 105, 122, 97, 98, 108, 101, 32, 115, 116, 114, 105, 99, 116]⟩ : ByteArray).size)] trivial ⟨(by decide), trivial⟩ (by kernel_rfl) (by kernel_rfl) (by kernel_rfl) ?_
          refine r_out (by kernel_rfl) ?_
          refine go_then (by kernel_rfl) ?_
          refine go_exit rfl ?_
          refine r_in ?_
          refine o_batch 0 [] [.p, .p, .p] [(7, .int .i64 49), (8, .int .i64 50), (4, .int .i64 50)] [] trivial trivial (by kernel_rfl) (by kernel_rfl) (by kernel_rfl) ?_
          refine r_out (by kernel_rfl) ?_
          refine go_again ?_
          refine go_gen [(0, .func (.yield l) #[] #[]), (2, .int .i64 5), (3, .int .i64 48), (4, .int .i64 50)] (by kernel_rfl) ?_
          intro _
          replace hI := hI.pick (L' := [B y10.2]) [0] (by decide) rfl
          refine go_seq ?_
          refine go_seq ?_
          refine r_in ?_
          refine o_batch 0 [] [.p, .p] [(5, .int .i64 50), (6, .bool true)] [] trivial trivial (by kernel_rfl) (by kernel_rfl) (by kernel_rfl) ?_
          refine r_out (by kernel_rfl) ?_
          refine go_then (by kernel_rfl) ?_
          refine go_skip ?_
          refine go_seq ?_
          refine go_block ?_
          refine go_seq ?_
          refine go_seq ?_
          refine r_in ?_
          refine o_batch 0 [] [.p, .p, .p, .p, .x, .p, .p] [(9, .int .i64 50), (10, .bool true), (11, .bool true), (12, .int .i64 50), (13, .int .u8 101), (14, .bool true), (15, .bool true)] [(50, (⟨#[114, 101, 97, 100, 45, 99, 111, 109, 109, 105, 116, 116, 101, 100, 32, 99, 117, 114, 115, 111, 114, 45, 115, 116, 97, 98, 108, 101, 32, 114, 101, 97, 100, 45, 97, 116, 111, 109, 105, 99, 32, 99, 97, 117, 115, 97, 108, 32, 112, 114, 101, 102, 105, 120, 32, 115, 110, 97, 112, 115, 104, 111, 116, 32, 115, 101, 114, 105, 97, 108, 105, 122, 97, 98, 108, 101, 32, 115, 116, 114, 105, 99, 116]⟩ : ByteArray).size)] trivial ⟨(by decide), trivial⟩ (by kernel_rfl) (by kernel_rfl) (by kernel_rfl) ?_
          refine r_out (by kernel_rfl) ?_
          refine go_then (by kernel_rfl) ?_
          refine go_exit rfl ?_
          refine r_in ?_
          refine o_batch 0 [] [.p, .p, .p] [(7, .int .i64 50), (8, .int .i64 51), (4, .int .i64 51)] [] trivial trivial (by kernel_rfl) (by kernel_rfl) (by kernel_rfl) ?_
          refine r_out (by kernel_rfl) ?_
          refine go_again ?_
          refine go_gen [(0, .func (.yield l) #[] #[]), (2, .int .i64 5), (3, .int .i64 48), (4, .int .i64 51)] (by kernel_rfl) ?_
          intro _
          replace hI := hI.pick (L' := [B y10.2]) [0] (by decide) rfl
          refine go_seq ?_
          refine go_seq ?_
          refine r_in ?_
          refine o_batch 0 [] [.p, .p] [(5, .int .i64 51), (6, .bool true)] [] trivial trivial (by kernel_rfl) (by kernel_rfl) (by kernel_rfl) ?_
          refine r_out (by kernel_rfl) ?_
          refine go_then (by kernel_rfl) ?_
          refine go_skip ?_
          refine go_seq ?_
          refine go_block ?_
          refine go_seq ?_
          refine go_seq ?_
          refine r_in ?_
          refine o_batch 0 [] [.p, .p, .p, .p, .x, .p, .p] [(9, .int .i64 51), (10, .bool true), (11, .bool true), (12, .int .i64 51), (13, .int .u8 102), (14, .bool true), (15, .bool true)] [(51, (⟨#[114, 101, 97, 100, 45, 99, 111, 109, 109, 105, 116, 116, 101, 100, 32, 99, 117, 114, 115, 111, 114, 45, 115, 116, 97, 98, 108, 101, 32, 114, 101, 97, 100, 45, 97, 116, 111, 109, 105, 99, 32, 99, 97, 117, 115, 97, 108, 32, 112, 114, 101, 102, 105, 120, 32, 115, 110, 97, 112, 115, 104, 111, 116, 32, 115, 101, 114, 105, 97, 108, 105, 122, 97, 98, 108, 101, 32, 115, 116, 114, 105, 99, 116]⟩ : ByteArray).size)] trivial ⟨(by decide), trivial⟩ (by kernel_rfl) (by kernel_rfl) (by kernel_rfl) ?_
          refine r_out (by kernel_rfl) ?_
          refine go_then (by kernel_rfl) ?_
          refine go_exit rfl ?_
          refine r_in ?_
          refine o_batch 0 [] [.p, .p, .p] [(7, .int .i64 51), (8, .int .i64 52), (4, .int .i64 52)] [] trivial trivial (by kernel_rfl) (by kernel_rfl) (by kernel_rfl) ?_
          refine r_out (by kernel_rfl) ?_
          refine go_again ?_
          refine go_gen [(0, .func (.yield l) #[] #[]), (2, .int .i64 5), (3, .int .i64 48), (4, .int .i64 52)] (by kernel_rfl) ?_
          intro _
          replace hI := hI.pick (L' := [B y10.2]) [0] (by decide) rfl
          refine go_seq ?_
          refine go_seq ?_
          refine r_in ?_
          refine o_batch 0 [] [.p, .p] [(5, .int .i64 52), (6, .bool true)] [] trivial trivial (by kernel_rfl) (by kernel_rfl) (by kernel_rfl) ?_
          refine r_out (by kernel_rfl) ?_
          refine go_then (by kernel_rfl) ?_
          refine go_skip ?_
          refine go_seq ?_
          refine go_block ?_
          refine go_seq ?_
          refine go_seq ?_
          refine r_in ?_
          refine o_batch 0 [] [.p, .p, .p, .p, .x, .p, .p] [(9, .int .i64 52), (10, .bool true), (11, .bool true), (12, .int .i64 52), (13, .int .u8 105), (14, .bool true), (15, .bool true)] [(52, (⟨#[114, 101, 97, 100, 45, 99, 111, 109, 109, 105, 116, 116, 101, 100, 32, 99, 117, 114, 115, 111, 114, 45, 115, 116, 97, 98, 108, 101, 32, 114, 101, 97, 100, 45, 97, 116, 111, 109, 105, 99, 32, 99, 97, 117, 115, 97, 108, 32, 112, 114, 101, 102, 105, 120, 32, 115, 110, 97, 112, 115, 104, 111, 116, 32, 115, 101, 114, 105, 97, 108, 105, 122, 97, 98, 108, 101, 32, 115, 116, 114, 105, 99, 116]⟩ : ByteArray).size)] trivial ⟨(by decide), trivial⟩ (by kernel_rfl) (by kernel_rfl) (by kernel_rfl) ?_
          refine r_out (by kernel_rfl) ?_
          refine go_then (by kernel_rfl) ?_
          refine go_exit rfl ?_
          refine r_in ?_
          refine o_batch 0 [] [.p, .p, .p] [(7, .int .i64 52), (8, .int .i64 53), (4, .int .i64 53)] [] trivial trivial (by kernel_rfl) (by kernel_rfl) (by kernel_rfl) ?_
          refine r_out (by kernel_rfl) ?_
          refine go_again ?_
          refine go_gen [(0, .func (.yield l) #[] #[]), (2, .int .i64 5), (3, .int .i64 48), (4, .int .i64 53)] (by kernel_rfl) ?_
          intro _
          replace hI := hI.pick (L' := [B y10.2]) [0] (by decide) rfl
          refine go_seq ?_
          refine go_seq ?_
          refine r_in ?_
          refine o_batch 0 [] [.p, .p] [(5, .int .i64 53), (6, .bool true)] [] trivial trivial (by kernel_rfl) (by kernel_rfl) (by kernel_rfl) ?_
          refine r_out (by kernel_rfl) ?_
          refine go_then (by kernel_rfl) ?_
          refine go_skip ?_
          refine go_seq ?_
          refine go_block ?_
          refine go_seq ?_
          refine go_seq ?_
          refine r_in ?_
          refine o_batch 0 [] [.p, .p, .p, .p, .x, .p, .p] [(9, .int .i64 53), (10, .bool true), (11, .bool true), (12, .int .i64 53), (13, .int .u8 120), (14, .bool true), (15, .bool true)] [(53, (⟨#[114, 101, 97, 100, 45, 99, 111, 109, 109, 105, 116, 116, 101, 100, 32, 99, 117, 114, 115, 111, 114, 45, 115, 116, 97, 98, 108, 101, 32, 114, 101, 97, 100, 45, 97, 116, 111, 109, 105, 99, 32, 99, 97, 117, 115, 97, 108, 32, 112, 114, 101, 102, 105, 120, 32, 115, 110, 97, 112, 115, 104, 111, 116, 32, 115, 101, 114, 105, 97, 108, 105, 122, 97, 98, 108, 101, 32, 115, 116, 114, 105, 99, 116]⟩ : ByteArray).size)] trivial ⟨(by decide), trivial⟩ (by kernel_rfl) (by kernel_rfl) (by kernel_rfl) ?_
          refine r_out (by kernel_rfl) ?_
          refine go_then (by kernel_rfl) ?_
          refine go_exit rfl ?_
          refine r_in ?_
          refine o_batch 0 [] [.p, .p, .p] [(7, .int .i64 53), (8, .int .i64 54), (4, .int .i64 54)] [] trivial trivial (by kernel_rfl) (by kernel_rfl) (by kernel_rfl) ?_
          refine r_out (by kernel_rfl) ?_
          refine go_again ?_
          refine go_gen [(0, .func (.yield l) #[] #[]), (2, .int .i64 5), (3, .int .i64 48), (4, .int .i64 54)] (by kernel_rfl) ?_
          intro _
          replace hI := hI.pick (L' := [B y10.2]) [0] (by decide) rfl
          refine go_seq ?_
          refine go_seq ?_
          refine r_in ?_
          refine o_batch 0 [] [.p, .p] [(5, .int .i64 54), (6, .bool true)] [] trivial trivial (by kernel_rfl) (by kernel_rfl) (by kernel_rfl) ?_
          refine r_out (by kernel_rfl) ?_
          refine go_then (by kernel_rfl) ?_
          refine go_skip ?_
          refine go_seq ?_
          refine go_block ?_
          refine go_seq ?_
          refine go_seq ?_
          refine r_in ?_
          refine o_batch 0 [] [.p, .p, .p, .p, .x, .p, .p] [(9, .int .i64 54), (10, .bool true), (11, .bool true), (12, .int .i64 54), (13, .int .u8 32), (14, .bool false), (15, .bool false)] [(54, (⟨#[114, 101, 97, 100, 45, 99, 111, 109, 109, 105, 116, 116, 101, 100, 32, 99, 117, 114, 115, 111, 114, 45, 115, 116, 97, 98, 108, 101, 32, 114, 101, 97, 100, 45, 97, 116, 111, 109, 105, 99, 32, 99, 97, 117, 115, 97, 108, 32, 112, 114, 101, 102, 105, 120, 32, 115, 110, 97, 112, 115, 104, 111, 116, 32, 115, 101, 114, 105, 97, 108, 105, 122, 97, 98, 108, 101, 32, 115, 116, 114, 105, 99, 116]⟩ : ByteArray).size)] trivial ⟨(by decide), trivial⟩ (by kernel_rfl) (by kernel_rfl) (by kernel_rfl) ?_
          refine r_out (by kernel_rfl) ?_
          refine go_else (by kernel_rfl) ?_
          refine go_skip ?_
          refine go_seq ?_
          refine go_seq ?_
          refine r_in ?_
          refine o_batch 0 [] [.p, .p, .p, .p, .x] [(16, .func (.yield l) #[] #[]), (17, .int .i64 5), (18, .int .i64 48), (19, .int .i64 54), (20, .string (⟨#[112, 114, 101, 102, 105, 120]⟩ : ByteArray))] [(48, (54 : Int).toNat + 1), (54, (⟨#[114, 101, 97, 100, 45, 99, 111, 109, 109, 105, 116, 116, 101, 100, 32, 99, 117, 114, 115, 111, 114, 45, 115, 116, 97, 98, 108, 101, 32, 114, 101, 97, 100, 45, 97, 116, 111, 109, 105, 99, 32, 99, 97, 117, 115, 97, 108, 32, 112, 114, 101, 102, 105, 120, 32, 115, 110, 97, 112, 115, 104, 111, 116, 32, 115, 101, 114, 105, 97, 108, 105, 122, 97, 98, 108, 101, 32, 115, 116, 114, 105, 99, 116]⟩ : ByteArray).size + 1)] trivial ⟨(by decide), (by decide), trivial⟩ (by kernel_rfl) (by kernel_rfl) (by kernel_rfl) ?_
          replace H := bind_some H
          obtain ⟨y13, hy14, H⟩ := H
          refine o_yield 5 _ rfl (by kernel_rfl) l _ _ _ _ rfl (by kernel_rfl) (by kernel_rfl) (hY _ _ _ _ _ hy14 hI) ?_
          clear hI
          rintro _ _ ⟨rfl, hI⟩
          refine o_batch 6 [] [.p] [(22, .bool (!y13.1))] [] trivial trivial (by kernel_rfl) (by kernel_rfl) (by kernel_rfl) ?_
          refine r_out (by kernel_rfl) ?_
          replace H := cond_some H
          rcases H with ⟨hc15, H⟩ | ⟨hc15, H⟩
          · refine go_then' (t := !y13.1) (by kernel_rfl) hc15 ?_
            replace H := Option.some.inj H
            subst H
            exact go_return (.tuple #[]) Try.func21 (by kernel_rfl) ⟨rfl, hI⟩
          · refine go_else' (t := !y13.1) (by kernel_rfl) hc15 ?_
            refine go_skip ?_
            refine r_in ?_
            refine o_batch 0 [] [.p, .p, .p, .p, .p, .p] [(23, .int .i64 5), (24, .int .i64 6), (25, .int .i64 54), (26, .int .i64 55), (2, .int .i64 6), (3, .int .i64 55)] [] trivial trivial (by kernel_rfl) (by kernel_rfl) (by kernel_rfl) ?_
            refine r_out (by kernel_rfl) ?_
            refine go_inBlock ?_
            refine r_in ?_
            refine o_batch 0 [] [.p, .p, .p] [(7, .int .i64 54), (8, .int .i64 55), (4, .int .i64 55)] [] trivial trivial (by kernel_rfl) (by kernel_rfl) (by kernel_rfl) ?_
            refine r_out (by kernel_rfl) ?_
            refine go_again ?_
            refine go_gen [(0, .func (.yield l) #[] #[]), (2, .int .i64 6), (3, .int .i64 55), (4, .int .i64 55)] (by kernel_rfl) ?_
            intro _
            replace hI := hI.pick (L' := [B y13.2]) [0] (by decide) rfl
            refine go_seq ?_
            refine go_seq ?_
            refine r_in ?_
            refine o_batch 0 [] [.p, .p] [(5, .int .i64 55), (6, .bool true)] [] trivial trivial (by kernel_rfl) (by kernel_rfl) (by kernel_rfl) ?_
            refine r_out (by kernel_rfl) ?_
            refine go_then (by kernel_rfl) ?_
            refine go_skip ?_
            refine go_seq ?_
            refine go_block ?_
            refine go_seq ?_
            refine go_seq ?_
            refine r_in ?_
            refine o_batch 0 [] [.p, .p, .p, .p, .x, .p, .p] [(9, .int .i64 55), (10, .bool true), (11, .bool true), (12, .int .i64 55), (13, .int .u8 115), (14, .bool true), (15, .bool true)] [(55, (⟨#[114, 101, 97, 100, 45, 99, 111, 109, 109, 105, 116, 116, 101, 100, 32, 99, 117, 114, 115, 111, 114, 45, 115, 116, 97, 98, 108, 101, 32, 114, 101, 97, 100, 45, 97, 116, 111, 109, 105, 99, 32, 99, 97, 117, 115, 97, 108, 32, 112, 114, 101, 102, 105, 120, 32, 115, 110, 97, 112, 115, 104, 111, 116, 32, 115, 101, 114, 105, 97, 108, 105, 122, 97, 98, 108, 101, 32, 115, 116, 114, 105, 99, 116]⟩ : ByteArray).size)] trivial ⟨(by decide), trivial⟩ (by kernel_rfl) (by kernel_rfl) (by kernel_rfl) ?_
            refine r_out (by kernel_rfl) ?_
            refine go_then (by kernel_rfl) ?_
            refine go_exit rfl ?_
            refine r_in ?_
            refine o_batch 0 [] [.p, .p, .p] [(7, .int .i64 55), (8, .int .i64 56), (4, .int .i64 56)] [] trivial trivial (by kernel_rfl) (by kernel_rfl) (by kernel_rfl) ?_
            refine r_out (by kernel_rfl) ?_
            refine go_again ?_
            refine go_gen [(0, .func (.yield l) #[] #[]), (2, .int .i64 6), (3, .int .i64 55), (4, .int .i64 56)] (by kernel_rfl) ?_
            intro _
            replace hI := hI.pick (L' := [B y13.2]) [0] (by decide) rfl
            refine go_seq ?_
            refine go_seq ?_
            refine r_in ?_
            refine o_batch 0 [] [.p, .p] [(5, .int .i64 56), (6, .bool true)] [] trivial trivial (by kernel_rfl) (by kernel_rfl) (by kernel_rfl) ?_
            refine r_out (by kernel_rfl) ?_
            refine go_then (by kernel_rfl) ?_
            refine go_skip ?_
            refine go_seq ?_
            refine go_block ?_
            refine go_seq ?_
            refine go_seq ?_
            refine r_in ?_
            refine o_batch 0 [] [.p, .p, .p, .p, .x, .p, .p] [(9, .int .i64 56), (10, .bool true), (11, .bool true), (12, .int .i64 56), (13, .int .u8 110), (14, .bool true), (15, .bool true)] [(56, (⟨#[114, 101, 97, 100, 45, 99, 111, 109, 109, 105, 116, 116, 101, 100, 32, 99, 117, 114, 115, 111, 114, 45, 115, 116, 97, 98, 108, 101, 32, 114, 101, 97, 100, 45, 97, 116, 111, 109, 105, 99, 32, 99, 97, 117, 115, 97, 108, 32, 112, 114, 101, 102, 105, 120, 32, 115, 110, 97, 112, 115, 104, 111, 116, 32, 115, 101, 114, 105, 97, 108, 105, 122, 97, 98, 108, 101, 32, 115, 116, 114, 105, 99, 116]⟩ : ByteArray).size)] trivial ⟨(by decide), trivial⟩ (by kernel_rfl) (by kernel_rfl) (by kernel_rfl) ?_
            refine r_out (by kernel_rfl) ?_
            refine go_then (by kernel_rfl) ?_
            refine go_exit rfl ?_
            refine r_in ?_
            refine o_batch 0 [] [.p, .p, .p] [(7, .int .i64 56), (8, .int .i64 57), (4, .int .i64 57)] [] trivial trivial (by kernel_rfl) (by kernel_rfl) (by kernel_rfl) ?_
            refine r_out (by kernel_rfl) ?_
            refine go_again ?_
            refine go_gen [(0, .func (.yield l) #[] #[]), (2, .int .i64 6), (3, .int .i64 55), (4, .int .i64 57)] (by kernel_rfl) ?_
            intro _
            replace hI := hI.pick (L' := [B y13.2]) [0] (by decide) rfl
            refine go_seq ?_
            refine go_seq ?_
            refine r_in ?_
            refine o_batch 0 [] [.p, .p] [(5, .int .i64 57), (6, .bool true)] [] trivial trivial (by kernel_rfl) (by kernel_rfl) (by kernel_rfl) ?_
            refine r_out (by kernel_rfl) ?_
            refine go_then (by kernel_rfl) ?_
            refine go_skip ?_
            refine go_seq ?_
            refine go_block ?_
            refine go_seq ?_
            refine go_seq ?_
            refine r_in ?_
            refine o_batch 0 [] [.p, .p, .p, .p, .x, .p, .p] [(9, .int .i64 57), (10, .bool true), (11, .bool true), (12, .int .i64 57), (13, .int .u8 97), (14, .bool true), (15, .bool true)] [(57, (⟨#[114, 101, 97, 100, 45, 99, 111, 109, 109, 105, 116, 116, 101, 100, 32, 99, 117, 114, 115, 111, 114, 45, 115, 116, 97, 98, 108, 101, 32, 114, 101, 97, 100, 45, 97, 116, 111, 109, 105, 99, 32, 99, 97, 117, 115, 97, 108, 32, 112, 114, 101, 102, 105, 120, 32, 115, 110, 97, 112, 115, 104, 111, 116, 32, 115, 101, 114, 105, 97, 108, 105, 122, 97, 98, 108, 101, 32, 115, 116, 114, 105, 99, 116]⟩ : ByteArray).size)] trivial ⟨(by decide), trivial⟩ (by kernel_rfl) (by kernel_rfl) (by kernel_rfl) ?_
            refine r_out (by kernel_rfl) ?_
            refine go_then (by kernel_rfl) ?_
            refine go_exit rfl ?_
            refine r_in ?_
            refine o_batch 0 [] [.p, .p, .p] [(7, .int .i64 57), (8, .int .i64 58), (4, .int .i64 58)] [] trivial trivial (by kernel_rfl) (by kernel_rfl) (by kernel_rfl) ?_
            refine r_out (by kernel_rfl) ?_
            refine go_again ?_
            refine go_gen [(0, .func (.yield l) #[] #[]), (2, .int .i64 6), (3, .int .i64 55), (4, .int .i64 58)] (by kernel_rfl) ?_
            intro _
            replace hI := hI.pick (L' := [B y13.2]) [0] (by decide) rfl
            refine go_seq ?_
            refine go_seq ?_
            refine r_in ?_
            refine o_batch 0 [] [.p, .p] [(5, .int .i64 58), (6, .bool true)] [] trivial trivial (by kernel_rfl) (by kernel_rfl) (by kernel_rfl) ?_
            refine r_out (by kernel_rfl) ?_
            refine go_then (by kernel_rfl) ?_
            refine go_skip ?_
            refine go_seq ?_
            refine go_block ?_
            refine go_seq ?_
            refine go_seq ?_
            refine r_in ?_
            refine o_batch 0 [] [.p, .p, .p, .p, .x, .p, .p] [(9, .int .i64 58), (10, .bool true), (11, .bool true), (12, .int .i64 58), (13, .int .u8 112), (14, .bool true), (15, .bool true)] [(58, (⟨#[114, 101, 97, 100, 45, 99, 111, 109, 109, 105, 116, 116, 101, 100, 32, 99, 117, 114, 115, 111, 114, 45, 115, 116, 97, 98, 108, 101, 32, 114, 101, 97, 100, 45, 97, 116, 111, 109, 105, 99, 32, 99, 97, 117, 115, 97, 108, 32, 112, 114, 101, 102, 105, 120, 32, 115, 110, 97, 112, 115, 104, 111, 116, 32, 115, 101, 114, 105, 97, 108, 105, 122, 97, 98, 108, 101, 32, 115, 116, 114, 105, 99, 116]⟩ : ByteArray).size)] trivial ⟨(by decide), trivial⟩ (by kernel_rfl) (by kernel_rfl) (by kernel_rfl) ?_
            refine r_out (by kernel_rfl) ?_
            refine go_then (by kernel_rfl) ?_
            refine go_exit rfl ?_
            refine r_in ?_
            refine o_batch 0 [] [.p, .p, .p] [(7, .int .i64 58), (8, .int .i64 59), (4, .int .i64 59)] [] trivial trivial (by kernel_rfl) (by kernel_rfl) (by kernel_rfl) ?_
            refine r_out (by kernel_rfl) ?_
            refine go_again ?_
            refine go_gen [(0, .func (.yield l) #[] #[]), (2, .int .i64 6), (3, .int .i64 55), (4, .int .i64 59)] (by kernel_rfl) ?_
            intro _
            replace hI := hI.pick (L' := [B y13.2]) [0] (by decide) rfl
            refine go_seq ?_
            refine go_seq ?_
            refine r_in ?_
            refine o_batch 0 [] [.p, .p] [(5, .int .i64 59), (6, .bool true)] [] trivial trivial (by kernel_rfl) (by kernel_rfl) (by kernel_rfl) ?_
            refine r_out (by kernel_rfl) ?_
            refine go_then (by kernel_rfl) ?_
            refine go_skip ?_
            refine go_seq ?_
            refine go_block ?_
            refine go_seq ?_
            refine go_seq ?_
            refine r_in ?_
            refine o_batch 0 [] [.p, .p, .p, .p, .x, .p, .p] [(9, .int .i64 59), (10, .bool true), (11, .bool true), (12, .int .i64 59), (13, .int .u8 115), (14, .bool true), (15, .bool true)] [(59, (⟨#[114, 101, 97, 100, 45, 99, 111, 109, 109, 105, 116, 116, 101, 100, 32, 99, 117, 114, 115, 111, 114, 45, 115, 116, 97, 98, 108, 101, 32, 114, 101, 97, 100, 45, 97, 116, 111, 109, 105, 99, 32, 99, 97, 117, 115, 97, 108, 32, 112, 114, 101, 102, 105, 120, 32, 115, 110, 97, 112, 115, 104, 111, 116, 32, 115, 101, 114, 105, 97, 108, 105, 122, 97, 98, 108, 101, 32, 115, 116, 114, 105, 99, 116]⟩ : ByteArray).size)] trivial ⟨(by decide), trivial⟩ (by kernel_rfl) (by kernel_rfl) (by kernel_rfl) ?_
            refine r_out (by kernel_rfl) ?_
            refine go_then (by kernel_rfl) ?_
            refine go_exit rfl ?_
            refine r_in ?_
            refine o_batch 0 [] [.p, .p, .p] [(7, .int .i64 59), (8, .int .i64 60), (4, .int .i64 60)] [] trivial trivial (by kernel_rfl) (by kernel_rfl) (by kernel_rfl) ?_
            refine r_out (by kernel_rfl) ?_
            refine go_again ?_
            refine go_gen [(0, .func (.yield l) #[] #[]), (2, .int .i64 6), (3, .int .i64 55), (4, .int .i64 60)] (by kernel_rfl) ?_
            intro _
            replace hI := hI.pick (L' := [B y13.2]) [0] (by decide) rfl
            refine go_seq ?_
            refine go_seq ?_
            refine r_in ?_
            refine o_batch 0 [] [.p, .p] [(5, .int .i64 60), (6, .bool true)] [] trivial trivial (by kernel_rfl) (by kernel_rfl) (by kernel_rfl) ?_
            refine r_out (by kernel_rfl) ?_
            refine go_then (by kernel_rfl) ?_
            refine go_skip ?_
            refine go_seq ?_
            refine go_block ?_
            refine go_seq ?_
            refine go_seq ?_
            refine r_in ?_
            refine o_batch 0 [] [.p, .p, .p, .p, .x, .p, .p] [(9, .int .i64 60), (10, .bool true), (11, .bool true), (12, .int .i64 60), (13, .int .u8 104), (14, .bool true), (15, .bool true)] [(60, (⟨#[114, 101, 97, 100, 45, 99, 111, 109, 109, 105, 116, 116, 101, 100, 32, 99, 117, 114, 115, 111, 114, 45, 115, 116, 97, 98, 108, 101, 32, 114, 101, 97, 100, 45, 97, 116, 111, 109, 105, 99, 32, 99, 97, 117, 115, 97, 108, 32, 112, 114, 101, 102, 105, 120, 32, 115, 110, 97, 112, 115, 104, 111, 116, 32, 115, 101, 114, 105, 97, 108, 105, 122, 97, 98, 108, 101, 32, 115, 116, 114, 105, 99, 116]⟩ : ByteArray).size)] trivial ⟨(by decide), trivial⟩ (by kernel_rfl) (by kernel_rfl) (by kernel_rfl) ?_
            refine r_out (by kernel_rfl) ?_
            refine go_then (by kernel_rfl) ?_
            refine go_exit rfl ?_
            refine r_in ?_
            refine o_batch 0 [] [.p, .p, .p] [(7, .int .i64 60), (8, .int .i64 61), (4, .int .i64 61)] [] trivial trivial (by kernel_rfl) (by kernel_rfl) (by kernel_rfl) ?_
            refine r_out (by kernel_rfl) ?_
            refine go_again ?_
            refine go_gen [(0, .func (.yield l) #[] #[]), (2, .int .i64 6), (3, .int .i64 55), (4, .int .i64 61)] (by kernel_rfl) ?_
            intro _
            replace hI := hI.pick (L' := [B y13.2]) [0] (by decide) rfl
            refine go_seq ?_
            refine go_seq ?_
            refine r_in ?_
            refine o_batch 0 [] [.p, .p] [(5, .int .i64 61), (6, .bool true)] [] trivial trivial (by kernel_rfl) (by kernel_rfl) (by kernel_rfl) ?_
            refine r_out (by kernel_rfl) ?_
            refine go_then (by kernel_rfl) ?_
            refine go_skip ?_
            refine go_seq ?_
            refine go_block ?_
            refine go_seq ?_
            refine go_seq ?_
            refine r_in ?_
            refine o_batch 0 [] [.p, .p, .p, .p, .x, .p, .p] [(9, .int .i64 61), (10, .bool true), (11, .bool true), (12, .int .i64 61), (13, .int .u8 111), (14, .bool true), (15, .bool true)] [(61, (⟨#[114, 101, 97, 100, 45, 99, 111, 109, 109, 105, 116, 116, 101, 100, 32, 99, 117, 114, 115, 111, 114, 45, 115, 116, 97, 98, 108, 101, 32, 114, 101, 97, 100, 45, 97, 116, 111, 109, 105, 99, 32, 99, 97, 117, 115, 97, 108, 32, 112, 114, 101, 102, 105, 120, 32, 115, 110, 97, 112, 115, 104, 111, 116, 32, 115, 101, 114, 105, 97, 108, 105, 122, 97, 98, 108, 101, 32, 115, 116, 114, 105, 99, 116]⟩ : ByteArray).size)] trivial ⟨(by decide), trivial⟩ (by kernel_rfl) (by kernel_rfl) (by kernel_rfl) ?_
            refine r_out (by kernel_rfl) ?_
            refine go_then (by kernel_rfl) ?_
            refine go_exit rfl ?_
            refine r_in ?_
            refine o_batch 0 [] [.p, .p, .p] [(7, .int .i64 61), (8, .int .i64 62), (4, .int .i64 62)] [] trivial trivial (by kernel_rfl) (by kernel_rfl) (by kernel_rfl) ?_
            refine r_out (by kernel_rfl) ?_
            refine go_again ?_
            refine go_gen [(0, .func (.yield l) #[] #[]), (2, .int .i64 6), (3, .int .i64 55), (4, .int .i64 62)] (by kernel_rfl) ?_
            intro _
            replace hI := hI.pick (L' := [B y13.2]) [0] (by decide) rfl
            refine go_seq ?_
            refine go_seq ?_
            refine r_in ?_
            refine o_batch 0 [] [.p, .p] [(5, .int .i64 62), (6, .bool true)] [] trivial trivial (by kernel_rfl) (by kernel_rfl) (by kernel_rfl) ?_
            refine r_out (by kernel_rfl) ?_
            refine go_then (by kernel_rfl) ?_
            refine go_skip ?_
            refine go_seq ?_
            refine go_block ?_
            refine go_seq ?_
            refine go_seq ?_
            refine r_in ?_
            refine o_batch 0 [] [.p, .p, .p, .p, .x, .p, .p] [(9, .int .i64 62), (10, .bool true), (11, .bool true), (12, .int .i64 62), (13, .int .u8 116), (14, .bool true), (15, .bool true)] [(62, (⟨#[114, 101, 97, 100, 45, 99, 111, 109, 109, 105, 116, 116, 101, 100, 32, 99, 117, 114, 115, 111, 114, 45, 115, 116, 97, 98, 108, 101, 32, 114, 101, 97, 100, 45, 97, 116, 111, 109, 105, 99, 32, 99, 97, 117, 115, 97, 108, 32, 112, 114, 101, 102, 105, 120, 32, 115, 110, 97, 112, 115, 104, 111, 116, 32, 115, 101, 114, 105, 97, 108, 105, 122, 97, 98, 108, 101, 32, 115, 116, 114, 105, 99, 116]⟩ : ByteArray).size)] trivial ⟨(by decide), trivial⟩ (by kernel_rfl) (by kernel_rfl) (by kernel_rfl) ?_
            refine r_out (by kernel_rfl) ?_
            refine go_then (by kernel_rfl) ?_
            refine go_exit rfl ?_
            refine r_in ?_
            refine o_batch 0 [] [.p, .p, .p] [(7, .int .i64 62), (8, .int .i64 63), (4, .int .i64 63)] [] trivial trivial (by kernel_rfl) (by kernel_rfl) (by kernel_rfl) ?_
            refine r_out (by kernel_rfl) ?_
            refine go_again ?_
            refine go_gen [(0, .func (.yield l) #[] #[]), (2, .int .i64 6), (3, .int .i64 55), (4, .int .i64 63)] (by kernel_rfl) ?_
            intro _
            replace hI := hI.pick (L' := [B y13.2]) [0] (by decide) rfl
            refine go_seq ?_
            refine go_seq ?_
            refine r_in ?_
            refine o_batch 0 [] [.p, .p] [(5, .int .i64 63), (6, .bool true)] [] trivial trivial (by kernel_rfl) (by kernel_rfl) (by kernel_rfl) ?_
            refine r_out (by kernel_rfl) ?_
            refine go_then (by kernel_rfl) ?_
            refine go_skip ?_
            refine go_seq ?_
            refine go_block ?_
            refine go_seq ?_
            refine go_seq ?_
            refine r_in ?_
            refine o_batch 0 [] [.p, .p, .p, .p, .x, .p, .p] [(9, .int .i64 63), (10, .bool true), (11, .bool true), (12, .int .i64 63), (13, .int .u8 32), (14, .bool false), (15, .bool false)] [(63, (⟨#[114, 101, 97, 100, 45, 99, 111, 109, 109, 105, 116, 116, 101, 100, 32, 99, 117, 114, 115, 111, 114, 45, 115, 116, 97, 98, 108, 101, 32, 114, 101, 97, 100, 45, 97, 116, 111, 109, 105, 99, 32, 99, 97, 117, 115, 97, 108, 32, 112, 114, 101, 102, 105, 120, 32, 115, 110, 97, 112, 115, 104, 111, 116, 32, 115, 101, 114, 105, 97, 108, 105, 122, 97, 98, 108, 101, 32, 115, 116, 114, 105, 99, 116]⟩ : ByteArray).size)] trivial ⟨(by decide), trivial⟩ (by kernel_rfl) (by kernel_rfl) (by kernel_rfl) ?_
            refine r_out (by kernel_rfl) ?_
            refine go_else (by kernel_rfl) ?_
            refine go_skip ?_
            refine go_seq ?_
            refine go_seq ?_
            refine r_in ?_
            refine o_batch 0 [] [.p, .p, .p, .p, .x] [(16, .func (.yield l) #[] #[]), (17, .int .i64 6), (18, .int .i64 55), (19, .int .i64 63), (20, .string (⟨#[115, 110, 97, 112, 115, 104, 111, 116]⟩ : ByteArray))] [(55, (63 : Int).toNat + 1), (63, (⟨#[114, 101, 97, 100, 45, 99, 111, 109, 109, 105, 116, 116, 101, 100, 32, 99, 117, 114, 115, 111, 114, 45, 115, 116, 97, 98, 108, 101, 32, 114, 101, 97, 100, 45, 97, 116, 111, 109, 105, 99, 32, 99, 97, 117, 115, 97, 108, 32, 112, 114, 101, 102, 105, 120, 32, 115, 110, 97, 112, 115, 104, 111, 116, 32, 115, 101, 114, 105, 97, 108, 105, 122, 97, 98, 108, 101, 32, 115, 116, 114, 105, 99, 116]⟩ : ByteArray).size + 1)] trivial ⟨(by decide), (by decide), trivial⟩ (by kernel_rfl) (by kernel_rfl) (by kernel_rfl) ?_
            replace H := bind_some H
            obtain ⟨y16, hy17, H⟩ := H
            refine o_yield 5 _ rfl (by kernel_rfl) l _ _ _ _ rfl (by kernel_rfl) (by kernel_rfl) (hY _ _ _ _ _ hy17 hI) ?_
            clear hI
            rintro _ _ ⟨rfl, hI⟩
            refine o_batch 6 [] [.p] [(22, .bool (!y16.1))] [] trivial trivial (by kernel_rfl) (by kernel_rfl) (by kernel_rfl) ?_
            refine r_out (by kernel_rfl) ?_
            replace H := cond_some H
            rcases H with ⟨hc18, H⟩ | ⟨hc18, H⟩
            · refine go_then' (t := !y16.1) (by kernel_rfl) hc18 ?_
              replace H := Option.some.inj H
              subst H
              exact go_return (.tuple #[]) Try.func21 (by kernel_rfl) ⟨rfl, hI⟩
            · refine go_else' (t := !y16.1) (by kernel_rfl) hc18 ?_
              refine go_skip ?_
              refine r_in ?_
              refine o_batch 0 [] [.p, .p, .p, .p, .p, .p] [(23, .int .i64 6), (24, .int .i64 7), (25, .int .i64 63), (26, .int .i64 64), (2, .int .i64 7), (3, .int .i64 64)] [] trivial trivial (by kernel_rfl) (by kernel_rfl) (by kernel_rfl) ?_
              refine r_out (by kernel_rfl) ?_
              refine go_inBlock ?_
              refine r_in ?_
              refine o_batch 0 [] [.p, .p, .p] [(7, .int .i64 63), (8, .int .i64 64), (4, .int .i64 64)] [] trivial trivial (by kernel_rfl) (by kernel_rfl) (by kernel_rfl) ?_
              refine r_out (by kernel_rfl) ?_
              refine go_again ?_
              refine go_gen [(0, .func (.yield l) #[] #[]), (2, .int .i64 7), (3, .int .i64 64), (4, .int .i64 64)] (by kernel_rfl) ?_
              intro _
              replace hI := hI.pick (L' := [B y16.2]) [0] (by decide) rfl
              refine go_seq ?_
              refine go_seq ?_
              refine r_in ?_
              refine o_batch 0 [] [.p, .p] [(5, .int .i64 64), (6, .bool true)] [] trivial trivial (by kernel_rfl) (by kernel_rfl) (by kernel_rfl) ?_
              refine r_out (by kernel_rfl) ?_
              refine go_then (by kernel_rfl) ?_
              refine go_skip ?_
              refine go_seq ?_
              refine go_block ?_
              refine go_seq ?_
              refine go_seq ?_
              refine r_in ?_
              refine o_batch 0 [] [.p, .p, .p, .p, .x, .p, .p] [(9, .int .i64 64), (10, .bool true), (11, .bool true), (12, .int .i64 64), (13, .int .u8 115), (14, .bool true), (15, .bool true)] [(64, (⟨#[114, 101, 97, 100, 45, 99, 111, 109, 109, 105, 116, 116, 101, 100, 32, 99, 117, 114, 115, 111, 114, 45, 115, 116, 97, 98, 108, 101, 32, 114, 101, 97, 100, 45, 97, 116, 111, 109, 105, 99, 32, 99, 97, 117, 115, 97, 108, 32, 112, 114, 101, 102, 105, 120, 32, 115, 110, 97, 112, 115, 104, 111, 116, 32, 115, 101, 114, 105, 97, 108, 105, 122, 97, 98, 108, 101, 32, 115, 116, 114, 105, 99, 116]⟩ : ByteArray).size)] trivial ⟨(by decide), trivial⟩ (by kernel_rfl) (by kernel_rfl) (by kernel_rfl) ?_
              refine r_out (by kernel_rfl) ?_
              refine go_then (by kernel_rfl) ?_
              refine go_exit rfl ?_
              refine r_in ?_
              refine o_batch 0 [] [.p, .p, .p] [(7, .int .i64 64), (8, .int .i64 65), (4, .int .i64 65)] [] trivial trivial (by kernel_rfl) (by kernel_rfl) (by kernel_rfl) ?_
              refine r_out (by kernel_rfl) ?_
              refine go_again ?_
              refine go_gen [(0, .func (.yield l) #[] #[]), (2, .int .i64 7), (3, .int .i64 64), (4, .int .i64 65)] (by kernel_rfl) ?_
              intro _
              replace hI := hI.pick (L' := [B y16.2]) [0] (by decide) rfl
              refine go_seq ?_
              refine go_seq ?_
              refine r_in ?_
              refine o_batch 0 [] [.p, .p] [(5, .int .i64 65), (6, .bool true)] [] trivial trivial (by kernel_rfl) (by kernel_rfl) (by kernel_rfl) ?_
              refine r_out (by kernel_rfl) ?_
              refine go_then (by kernel_rfl) ?_
              refine go_skip ?_
              refine go_seq ?_
              refine go_block ?_
              refine go_seq ?_
              refine go_seq ?_
              refine r_in ?_
              refine o_batch 0 [] [.p, .p, .p, .p, .x, .p, .p] [(9, .int .i64 65), (10, .bool true), (11, .bool true), (12, .int .i64 65), (13, .int .u8 101), (14, .bool true), (15, .bool true)] [(65, (⟨#[114, 101, 97, 100, 45, 99, 111, 109, 109, 105, 116, 116, 101, 100, 32, 99, 117, 114, 115, 111, 114, 45, 115, 116, 97, 98, 108, 101, 32, 114, 101, 97, 100, 45, 97, 116, 111, 109, 105, 99, 32, 99, 97, 117, 115, 97, 108, 32, 112, 114, 101, 102, 105, 120, 32, 115, 110, 97, 112, 115, 104, 111, 116, 32, 115, 101, 114, 105, 97, 108, 105, 122, 97, 98, 108, 101, 32, 115, 116, 114, 105, 99, 116]⟩ : ByteArray).size)] trivial ⟨(by decide), trivial⟩ (by kernel_rfl) (by kernel_rfl) (by kernel_rfl) ?_
              refine r_out (by kernel_rfl) ?_
              refine go_then (by kernel_rfl) ?_
              refine go_exit rfl ?_
              refine r_in ?_
              refine o_batch 0 [] [.p, .p, .p] [(7, .int .i64 65), (8, .int .i64 66), (4, .int .i64 66)] [] trivial trivial (by kernel_rfl) (by kernel_rfl) (by kernel_rfl) ?_
              refine r_out (by kernel_rfl) ?_
              refine go_again ?_
              refine go_gen [(0, .func (.yield l) #[] #[]), (2, .int .i64 7), (3, .int .i64 64), (4, .int .i64 66)] (by kernel_rfl) ?_
              intro _
              replace hI := hI.pick (L' := [B y16.2]) [0] (by decide) rfl
              refine go_seq ?_
              refine go_seq ?_
              refine r_in ?_
              refine o_batch 0 [] [.p, .p] [(5, .int .i64 66), (6, .bool true)] [] trivial trivial (by kernel_rfl) (by kernel_rfl) (by kernel_rfl) ?_
              refine r_out (by kernel_rfl) ?_
              refine go_then (by kernel_rfl) ?_
              refine go_skip ?_
              refine go_seq ?_
              refine go_block ?_
              refine go_seq ?_
              refine go_seq ?_
              refine r_in ?_
              refine o_batch 0 [] [.p, .p, .p, .p, .x, .p, .p] [(9, .int .i64 66), (10, .bool true), (11, .bool true), (12, .int .i64 66), (13, .int .u8 114), (14, .bool true), (15, .bool true)] [(66, (⟨#[114, 101, 97, 100, 45, 99, 111, 109, 109, 105, 116, 116, 101, 100, 32, 99, 117, 114, 115, 111, 114, 45, 115, 116, 97, 98, 108, 101, 32, 114, 101, 97, 100, 45, 97, 116, 111, 109, 105, 99, 32, 99, 97, 117, 115, 97, 108, 32, 112, 114, 101, 102, 105, 120, 32, 115, 110, 97, 112, 115, 104, 111, 116, 32, 115, 101, 114, 105, 97, 108, 105, 122, 97, 98, 108, 101, 32, 115, 116, 114, 105, 99, 116]⟩ : ByteArray).size)] trivial ⟨(by decide), trivial⟩ (by kernel_rfl) (by kernel_rfl) (by kernel_rfl) ?_
              refine r_out (by kernel_rfl) ?_
              refine go_then (by kernel_rfl) ?_
              refine go_exit rfl ?_
              refine r_in ?_
              refine o_batch 0 [] [.p, .p, .p] [(7, .int .i64 66), (8, .int .i64 67), (4, .int .i64 67)] [] trivial trivial (by kernel_rfl) (by kernel_rfl) (by kernel_rfl) ?_
              refine r_out (by kernel_rfl) ?_
              refine go_again ?_
              refine go_gen [(0, .func (.yield l) #[] #[]), (2, .int .i64 7), (3, .int .i64 64), (4, .int .i64 67)] (by kernel_rfl) ?_
              intro _
              replace hI := hI.pick (L' := [B y16.2]) [0] (by decide) rfl
              refine go_seq ?_
              refine go_seq ?_
              refine r_in ?_
              refine o_batch 0 [] [.p, .p] [(5, .int .i64 67), (6, .bool true)] [] trivial trivial (by kernel_rfl) (by kernel_rfl) (by kernel_rfl) ?_
              refine r_out (by kernel_rfl) ?_
              refine go_then (by kernel_rfl) ?_
              refine go_skip ?_
              refine go_seq ?_
              refine go_block ?_
              refine go_seq ?_
              refine go_seq ?_
              refine r_in ?_
              refine o_batch 0 [] [.p, .p, .p, .p, .x, .p, .p] [(9, .int .i64 67), (10, .bool true), (11, .bool true), (12, .int .i64 67), (13, .int .u8 105), (14, .bool true), (15, .bool true)] [(67, (⟨#[114, 101, 97, 100, 45, 99, 111, 109, 109, 105, 116, 116, 101, 100, 32, 99, 117, 114, 115, 111, 114, 45, 115, 116, 97, 98, 108, 101, 32, 114, 101, 97, 100, 45, 97, 116, 111, 109, 105, 99, 32, 99, 97, 117, 115, 97, 108, 32, 112, 114, 101, 102, 105, 120, 32, 115, 110, 97, 112, 115, 104, 111, 116, 32, 115, 101, 114, 105, 97, 108, 105, 122, 97, 98, 108, 101, 32, 115, 116, 114, 105, 99, 116]⟩ : ByteArray).size)] trivial ⟨(by decide), trivial⟩ (by kernel_rfl) (by kernel_rfl) (by kernel_rfl) ?_
              refine r_out (by kernel_rfl) ?_
              refine go_then (by kernel_rfl) ?_
              refine go_exit rfl ?_
              refine r_in ?_
              refine o_batch 0 [] [.p, .p, .p] [(7, .int .i64 67), (8, .int .i64 68), (4, .int .i64 68)] [] trivial trivial (by kernel_rfl) (by kernel_rfl) (by kernel_rfl) ?_
              refine r_out (by kernel_rfl) ?_
              refine go_again ?_
              refine go_gen [(0, .func (.yield l) #[] #[]), (2, .int .i64 7), (3, .int .i64 64), (4, .int .i64 68)] (by kernel_rfl) ?_
              intro _
              replace hI := hI.pick (L' := [B y16.2]) [0] (by decide) rfl
              refine go_seq ?_
              refine go_seq ?_
              refine r_in ?_
              refine o_batch 0 [] [.p, .p] [(5, .int .i64 68), (6, .bool true)] [] trivial trivial (by kernel_rfl) (by kernel_rfl) (by kernel_rfl) ?_
              refine r_out (by kernel_rfl) ?_
              refine go_then (by kernel_rfl) ?_
              refine go_skip ?_
              refine go_seq ?_
              refine go_block ?_
              refine go_seq ?_
              refine go_seq ?_
              refine r_in ?_
              refine o_batch 0 [] [.p, .p, .p, .p, .x, .p, .p] [(9, .int .i64 68), (10, .bool true), (11, .bool true), (12, .int .i64 68), (13, .int .u8 97), (14, .bool true), (15, .bool true)] [(68, (⟨#[114, 101, 97, 100, 45, 99, 111, 109, 109, 105, 116, 116, 101, 100, 32, 99, 117, 114, 115, 111, 114, 45, 115, 116, 97, 98, 108, 101, 32, 114, 101, 97, 100, 45, 97, 116, 111, 109, 105, 99, 32, 99, 97, 117, 115, 97, 108, 32, 112, 114, 101, 102, 105, 120, 32, 115, 110, 97, 112, 115, 104, 111, 116, 32, 115, 101, 114, 105, 97, 108, 105, 122, 97, 98, 108, 101, 32, 115, 116, 114, 105, 99, 116]⟩ : ByteArray).size)] trivial ⟨(by decide), trivial⟩ (by kernel_rfl) (by kernel_rfl) (by kernel_rfl) ?_
              refine r_out (by kernel_rfl) ?_
              refine go_then (by kernel_rfl) ?_
              refine go_exit rfl ?_
              refine r_in ?_
              refine o_batch 0 [] [.p, .p, .p] [(7, .int .i64 68), (8, .int .i64 69), (4, .int .i64 69)] [] trivial trivial (by kernel_rfl) (by kernel_rfl) (by kernel_rfl) ?_
              refine r_out (by kernel_rfl) ?_
              refine go_again ?_
              refine go_gen [(0, .func (.yield l) #[] #[]), (2, .int .i64 7), (3, .int .i64 64), (4, .int .i64 69)] (by kernel_rfl) ?_
              intro _
              replace hI := hI.pick (L' := [B y16.2]) [0] (by decide) rfl
              refine go_seq ?_
              refine go_seq ?_
              refine r_in ?_
              refine o_batch 0 [] [.p, .p] [(5, .int .i64 69), (6, .bool true)] [] trivial trivial (by kernel_rfl) (by kernel_rfl) (by kernel_rfl) ?_
              refine r_out (by kernel_rfl) ?_
              refine go_then (by kernel_rfl) ?_
              refine go_skip ?_
              refine go_seq ?_
              refine go_block ?_
              refine go_seq ?_
              refine go_seq ?_
              refine r_in ?_
              refine o_batch 0 [] [.p, .p, .p, .p, .x, .p, .p] [(9, .int .i64 69), (10, .bool true), (11, .bool true), (12, .int .i64 69), (13, .int .u8 108), (14, .bool true), (15, .bool true)] [(69, (⟨#[114, 101, 97, 100, 45, 99, 111, 109, 109, 105, 116, 116, 101, 100, 32, 99, 117, 114, 115, 111, 114, 45, 115, 116, 97, 98, 108, 101, 32, 114, 101, 97, 100, 45, 97, 116, 111, 109, 105, 99, 32, 99, 97, 117, 115, 97, 108, 32, 112, 114, 101, 102, 105, 120, 32, 115, 110, 97, 112, 115, 104, 111, 116, 32, 115, 101, 114, 105, 97, 108, 105, 122, 97, 98, 108, 101, 32, 115, 116, 114, 105, 99, 116]⟩ : ByteArray).size)] trivial ⟨(by decide), trivial⟩ (by kernel_rfl) (by kernel_rfl) (by kernel_rfl) ?_
              refine r_out (by kernel_rfl) ?_
              refine go_then (by kernel_rfl) ?_
              refine go_exit rfl ?_
              refine r_in ?_
              refine o_batch 0 [] [.p, .p, .p] [(7, .int .i64 69), (8, .int .i64 70), (4, .int .i64 70)] [] trivial trivial (by kernel_rfl) (by kernel_rfl) (by kernel_rfl) ?_
              refine r_out (by kernel_rfl) ?_
              refine go_again ?_
              refine go_gen [(0, .func (.yield l) #[] #[]), (2, .int .i64 7), (3, .int .i64 64), (4, .int .i64 70)] (by kernel_rfl) ?_
              intro _
              replace hI := hI.pick (L' := [B y16.2]) [0] (by decide) rfl
              refine go_seq ?_
              refine go_seq ?_
              refine r_in ?_
              refine o_batch 0 [] [.p, .p] [(5, .int .i64 70), (6, .bool true)] [] trivial trivial (by kernel_rfl) (by kernel_rfl) (by kernel_rfl) ?_
              refine r_out (by kernel_rfl) ?_
              refine go_then (by kernel_rfl) ?_
              refine go_skip ?_
              refine go_seq ?_
              refine go_block ?_
              refine go_seq ?_
              refine go_seq ?_
              refine r_in ?_
              refine o_batch 0 [] [.p, .p, .p, .p, .x, .p, .p] [(9, .int .i64 70), (10, .bool true), (11, .bool true), (12, .int .i64 70), (13, .int .u8 105), (14, .bool true), (15, .bool true)] [(70, (⟨#[114, 101, 97, 100, 45, 99, 111, 109, 109, 105, 116, 116, 101, 100, 32, 99, 117, 114, 115, 111, 114, 45, 115, 116, 97, 98, 108, 101, 32, 114, 101, 97, 100, 45, 97, 116, 111, 109, 105, 99, 32, 99, 97, 117, 115, 97, 108, 32, 112, 114, 101, 102, 105, 120, 32, 115, 110, 97, 112, 115, 104, 111, 116, 32, 115, 101, 114, 105, 97, 108, 105, 122, 97, 98, 108, 101, 32, 115, 116, 114, 105, 99, 116]⟩ : ByteArray).size)] trivial ⟨(by decide), trivial⟩ (by kernel_rfl) (by kernel_rfl) (by kernel_rfl) ?_
              refine r_out (by kernel_rfl) ?_
              refine go_then (by kernel_rfl) ?_
              refine go_exit rfl ?_
              refine r_in ?_
              refine o_batch 0 [] [.p, .p, .p] [(7, .int .i64 70), (8, .int .i64 71), (4, .int .i64 71)] [] trivial trivial (by kernel_rfl) (by kernel_rfl) (by kernel_rfl) ?_
              refine r_out (by kernel_rfl) ?_
              refine go_again ?_
              refine go_gen [(0, .func (.yield l) #[] #[]), (2, .int .i64 7), (3, .int .i64 64), (4, .int .i64 71)] (by kernel_rfl) ?_
              intro _
              replace hI := hI.pick (L' := [B y16.2]) [0] (by decide) rfl
              refine go_seq ?_
              refine go_seq ?_
              refine r_in ?_
              refine o_batch 0 [] [.p, .p] [(5, .int .i64 71), (6, .bool true)] [] trivial trivial (by kernel_rfl) (by kernel_rfl) (by kernel_rfl) ?_
              refine r_out (by kernel_rfl) ?_
              refine go_then (by kernel_rfl) ?_
              refine go_skip ?_
              refine go_seq ?_
              refine go_block ?_
              refine go_seq ?_
              refine go_seq ?_
              refine r_in ?_
              refine o_batch 0 [] [.p, .p, .p, .p, .x, .p, .p] [(9, .int .i64 71), (10, .bool true), (11, .bool true), (12, .int .i64 71), (13, .int .u8 122), (14, .bool true), (15, .bool true)] [(71, (⟨#[114, 101, 97, 100, 45, 99, 111, 109, 109, 105, 116, 116, 101, 100, 32, 99, 117, 114, 115, 111, 114, 45, 115, 116, 97, 98, 108, 101, 32, 114, 101, 97, 100, 45, 97, 116, 111, 109, 105, 99, 32, 99, 97, 117, 115, 97, 108, 32, 112, 114, 101, 102, 105, 120, 32, 115, 110, 97, 112, 115, 104, 111, 116, 32, 115, 101, 114, 105, 97, 108, 105, 122, 97, 98, 108, 101, 32, 115, 116, 114, 105, 99, 116]⟩ : ByteArray).size)] trivial ⟨(by decide), trivial⟩ (by kernel_rfl) (by kernel_rfl) (by kernel_rfl) ?_
              refine r_out (by kernel_rfl) ?_
              refine go_then (by kernel_rfl) ?_
              refine go_exit rfl ?_
              refine r_in ?_
              refine o_batch 0 [] [.p, .p, .p] [(7, .int .i64 71), (8, .int .i64 72), (4, .int .i64 72)] [] trivial trivial (by kernel_rfl) (by kernel_rfl) (by kernel_rfl) ?_
              refine r_out (by kernel_rfl) ?_
              refine go_again ?_
              refine go_gen [(0, .func (.yield l) #[] #[]), (2, .int .i64 7), (3, .int .i64 64), (4, .int .i64 72)] (by kernel_rfl) ?_
              intro _
              replace hI := hI.pick (L' := [B y16.2]) [0] (by decide) rfl
              refine go_seq ?_
              refine go_seq ?_
              refine r_in ?_
              refine o_batch 0 [] [.p, .p] [(5, .int .i64 72), (6, .bool true)] [] trivial trivial (by kernel_rfl) (by kernel_rfl) (by kernel_rfl) ?_
              refine r_out (by kernel_rfl) ?_
              refine go_then (by kernel_rfl) ?_
              refine go_skip ?_
              refine go_seq ?_
              refine go_block ?_
              refine go_seq ?_
              refine go_seq ?_
              refine r_in ?_
              refine o_batch 0 [] [.p, .p, .p, .p, .x, .p, .p] [(9, .int .i64 72), (10, .bool true), (11, .bool true), (12, .int .i64 72), (13, .int .u8 97), (14, .bool true), (15, .bool true)] [(72, (⟨#[114, 101, 97, 100, 45, 99, 111, 109, 109, 105, 116, 116, 101, 100, 32, 99, 117, 114, 115, 111, 114, 45, 115, 116, 97, 98, 108, 101, 32, 114, 101, 97, 100, 45, 97, 116, 111, 109, 105, 99, 32, 99, 97, 117, 115, 97, 108, 32, 112, 114, 101, 102, 105, 120, 32, 115, 110, 97, 112, 115, 104, 111, 116, 32, 115, 101, 114, 105, 97, 108, 105, 122, 97, 98, 108, 101, 32, 115, 116, 114, 105, 99, 116]⟩ : ByteArray).size)] trivial ⟨(by decide), trivial⟩ (by kernel_rfl) (by kernel_rfl) (by kernel_rfl) ?_
              refine r_out (by kernel_rfl) ?_
              refine go_then (by kernel_rfl) ?_
              refine go_exit rfl ?_
              refine r_in ?_
              refine o_batch 0 [] [.p, .p, .p] [(7, .int .i64 72), (8, .int .i64 73), (4, .int .i64 73)] [] trivial trivial (by kernel_rfl) (by kernel_rfl) (by kernel_rfl) ?_
              refine r_out (by kernel_rfl) ?_
              refine go_again ?_
              refine go_gen [(0, .func (.yield l) #[] #[]), (2, .int .i64 7), (3, .int .i64 64), (4, .int .i64 73)] (by kernel_rfl) ?_
              intro _
              replace hI := hI.pick (L' := [B y16.2]) [0] (by decide) rfl
              refine go_seq ?_
              refine go_seq ?_
              refine r_in ?_
              refine o_batch 0 [] [.p, .p] [(5, .int .i64 73), (6, .bool true)] [] trivial trivial (by kernel_rfl) (by kernel_rfl) (by kernel_rfl) ?_
              refine r_out (by kernel_rfl) ?_
              refine go_then (by kernel_rfl) ?_
              refine go_skip ?_
              refine go_seq ?_
              refine go_block ?_
              refine go_seq ?_
              refine go_seq ?_
              refine r_in ?_
              refine o_batch 0 [] [.p, .p, .p, .p, .x, .p, .p] [(9, .int .i64 73), (10, .bool true), (11, .bool true), (12, .int .i64 73), (13, .int .u8 98), (14, .bool true), (15, .bool true)] [(73, (⟨#[114, 101, 97, 100, 45, 99, 111, 109, 109, 105, 116, 116, 101, 100, 32, 99, 117, 114, 115, 111, 114, 45, 115, 116, 97, 98, 108, 101, 32, 114, 101, 97, 100, 45, 97, 116, 111, 109, 105, 99, 32, 99, 97, 117, 115, 97, 108, 32, 112, 114, 101, 102, 105, 120, 32, 115, 110, 97, 112, 115, 104, 111, 116, 32, 115, 101, 114, 105, 97, 108, 105, 122, 97, 98, 108, 101, 32, 115, 116, 114, 105, 99, 116]⟩ : ByteArray).size)] trivial ⟨(by decide), trivial⟩ (by kernel_rfl) (by kernel_rfl) (by kernel_rfl) ?_
              refine r_out (by kernel_rfl) ?_
              refine go_then (by kernel_rfl) ?_
              refine go_exit rfl ?_
              refine r_in ?_
              refine o_batch 0 [] [.p, .p, .p] [(7, .int .i64 73), (8, .int .i64 74), (4, .int .i64 74)] [] trivial trivial (by kernel_rfl) (by kernel_rfl) (by kernel_rfl) ?_
              refine r_out (by kernel_rfl) ?_
              refine go_again ?_
              refine go_gen [(0, .func (.yield l) #[] #[]), (2, .int .i64 7), (3, .int .i64 64), (4, .int .i64 74)] (by kernel_rfl) ?_
              intro _
              replace hI := hI.pick (L' := [B y16.2]) [0] (by decide) rfl
              refine go_seq ?_
              refine go_seq ?_
              refine r_in ?_
              refine o_batch 0 [] [.p, .p] [(5, .int .i64 74), (6, .bool true)] [] trivial trivial (by kernel_rfl) (by kernel_rfl) (by kernel_rfl) ?_
              refine r_out (by kernel_rfl) ?_
              refine go_then (by kernel_rfl) ?_
              refine go_skip ?_
              refine go_seq ?_
              refine go_block ?_
              refine go_seq ?_
              refine go_seq ?_
              refine r_in ?_
              refine o_batch 0 [] [.p, .p, .p, .p, .x, .p, .p] [(9, .int .i64 74), (10, .bool true), (11, .bool true), (12, .int .i64 74), (13, .int .u8 108), (14, .bool true), (15, .bool true)] [(74, (⟨#[114, 101, 97, 100, 45, 99, 111, 109, 109, 105, 116, 116, 101, 100, 32, 99, 117, 114, 115, 111, 114, 45, 115, 116, 97, 98, 108, 101, 32, 114, 101, 97, 100, 45, 97, 116, 111, 109, 105, 99, 32, 99, 97, 117, 115, 97, 108, 32, 112, 114, 101, 102, 105, 120, 32, 115, 110, 97, 112, 115, 104, 111, 116, 32, 115, 101, 114, 105, 97, 108, 105, 122, 97, 98, 108, 101, 32, 115, 116, 114, 105, 99, 116]⟩ : ByteArray).size)] trivial ⟨(by decide), trivial⟩ (by kernel_rfl) (by kernel_rfl) (by kernel_rfl) ?_
              refine r_out (by kernel_rfl) ?_
              refine go_then (by kernel_rfl) ?_
              refine go_exit rfl ?_
              refine r_in ?_
              refine o_batch 0 [] [.p, .p, .p] [(7, .int .i64 74), (8, .int .i64 75), (4, .int .i64 75)] [] trivial trivial (by kernel_rfl) (by kernel_rfl) (by kernel_rfl) ?_
              refine r_out (by kernel_rfl) ?_
              refine go_again ?_
              refine go_gen [(0, .func (.yield l) #[] #[]), (2, .int .i64 7), (3, .int .i64 64), (4, .int .i64 75)] (by kernel_rfl) ?_
              intro _
              replace hI := hI.pick (L' := [B y16.2]) [0] (by decide) rfl
              refine go_seq ?_
              refine go_seq ?_
              refine r_in ?_
              refine o_batch 0 [] [.p, .p] [(5, .int .i64 75), (6, .bool true)] [] trivial trivial (by kernel_rfl) (by kernel_rfl) (by kernel_rfl) ?_
              refine r_out (by kernel_rfl) ?_
              refine go_then (by kernel_rfl) ?_
              refine go_skip ?_
              refine go_seq ?_
              refine go_block ?_
              refine go_seq ?_
              refine go_seq ?_
              refine r_in ?_
              refine o_batch 0 [] [.p, .p, .p, .p, .x, .p, .p] [(9, .int .i64 75), (10, .bool true), (11, .bool true), (12, .int .i64 75), (13, .int .u8 101), (14, .bool true), (15, .bool true)] [(75, (⟨#[114, 101, 97, 100, 45, 99, 111, 109, 109, 105, 116, 116, 101, 100, 32, 99, 117, 114, 115, 111, 114, 45, 115, 116, 97, 98, 108, 101, 32, 114, 101, 97, 100, 45, 97, 116, 111, 109, 105, 99, 32, 99, 97, 117, 115, 97, 108, 32, 112, 114, 101, 102, 105, 120, 32, 115, 110, 97, 112, 115, 104, 111, 116, 32, 115, 101, 114, 105, 97, 108, 105, 122, 97, 98, 108, 101, 32, 115, 116, 114, 105, 99, 116]⟩ : ByteArray).size)] trivial ⟨(by decide), trivial⟩ (by kernel_rfl) (by kernel_rfl) (by kernel_rfl) ?_
              refine r_out (by kernel_rfl) ?_
              refine go_then (by kernel_rfl) ?_
              refine go_exit rfl ?_
              refine r_in ?_
              refine o_batch 0 [] [.p, .p, .p] [(7, .int .i64 75), (8, .int .i64 76), (4, .int .i64 76)] [] trivial trivial (by kernel_rfl) (by kernel_rfl) (by kernel_rfl) ?_
              refine r_out (by kernel_rfl) ?_
              refine go_again ?_
              refine go_gen [(0, .func (.yield l) #[] #[]), (2, .int .i64 7), (3, .int .i64 64), (4, .int .i64 76)] (by kernel_rfl) ?_
              intro _
              replace hI := hI.pick (L' := [B y16.2]) [0] (by decide) rfl
              refine go_seq ?_
              refine go_seq ?_
              refine r_in ?_
              refine o_batch 0 [] [.p, .p] [(5, .int .i64 76), (6, .bool true)] [] trivial trivial (by kernel_rfl) (by kernel_rfl) (by kernel_rfl) ?_
              refine r_out (by kernel_rfl) ?_
              refine go_then (by kernel_rfl) ?_
              refine go_skip ?_
              refine go_seq ?_
              refine go_block ?_
              refine go_seq ?_
              refine go_seq ?_
              refine r_in ?_
              refine o_batch 0 [] [.p, .p, .p, .p, .x, .p, .p] [(9, .int .i64 76), (10, .bool true), (11, .bool true), (12, .int .i64 76), (13, .int .u8 32), (14, .bool false), (15, .bool false)] [(76, (⟨#[114, 101, 97, 100, 45, 99, 111, 109, 109, 105, 116, 116, 101, 100, 32, 99, 117, 114, 115, 111, 114, 45, 115, 116, 97, 98, 108, 101, 32, 114, 101, 97, 100, 45, 97, 116, 111, 109, 105, 99, 32, 99, 97, 117, 115, 97, 108, 32, 112, 114, 101, 102, 105, 120, 32, 115, 110, 97, 112, 115, 104, 111, 116, 32, 115, 101, 114, 105, 97, 108, 105, 122, 97, 98, 108, 101, 32, 115, 116, 114, 105, 99, 116]⟩ : ByteArray).size)] trivial ⟨(by decide), trivial⟩ (by kernel_rfl) (by kernel_rfl) (by kernel_rfl) ?_
              refine r_out (by kernel_rfl) ?_
              refine go_else (by kernel_rfl) ?_
              refine go_skip ?_
              refine go_seq ?_
              refine go_seq ?_
              refine r_in ?_
              refine o_batch 0 [] [.p, .p, .p, .p, .x] [(16, .func (.yield l) #[] #[]), (17, .int .i64 7), (18, .int .i64 64), (19, .int .i64 76), (20, .string (⟨#[115, 101, 114, 105, 97, 108, 105, 122, 97, 98, 108, 101]⟩ : ByteArray))] [(64, (76 : Int).toNat + 1), (76, (⟨#[114, 101, 97, 100, 45, 99, 111, 109, 109, 105, 116, 116, 101, 100, 32, 99, 117, 114, 115, 111, 114, 45, 115, 116, 97, 98, 108, 101, 32, 114, 101, 97, 100, 45, 97, 116, 111, 109, 105, 99, 32, 99, 97, 117, 115, 97, 108, 32, 112, 114, 101, 102, 105, 120, 32, 115, 110, 97, 112, 115, 104, 111, 116, 32, 115, 101, 114, 105, 97, 108, 105, 122, 97, 98, 108, 101, 32, 115, 116, 114, 105, 99, 116]⟩ : ByteArray).size + 1)] trivial ⟨(by decide), (by decide), trivial⟩ (by kernel_rfl) (by kernel_rfl) (by kernel_rfl) ?_
              replace H := bind_some H
              obtain ⟨y19, hy20, H⟩ := H
              refine o_yield 5 _ rfl (by kernel_rfl) l _ _ _ _ rfl (by kernel_rfl) (by kernel_rfl) (hY _ _ _ _ _ hy20 hI) ?_
              clear hI
              rintro _ _ ⟨rfl, hI⟩
              refine o_batch 6 [] [.p] [(22, .bool (!y19.1))] [] trivial trivial (by kernel_rfl) (by kernel_rfl) (by kernel_rfl) ?_
              refine r_out (by kernel_rfl) ?_
              replace H := cond_some H
              rcases H with ⟨hc21, H⟩ | ⟨hc21, H⟩
              · refine go_then' (t := !y19.1) (by kernel_rfl) hc21 ?_
                replace H := Option.some.inj H
                subst H
                exact go_return (.tuple #[]) Try.func21 (by kernel_rfl) ⟨rfl, hI⟩
              · refine go_else' (t := !y19.1) (by kernel_rfl) hc21 ?_
                refine go_skip ?_
                refine r_in ?_
                refine o_batch 0 [] [.p, .p, .p, .p, .p, .p] [(23, .int .i64 7), (24, .int .i64 8), (25, .int .i64 76), (26, .int .i64 77), (2, .int .i64 8), (3, .int .i64 77)] [] trivial trivial (by kernel_rfl) (by kernel_rfl) (by kernel_rfl) ?_
                refine r_out (by kernel_rfl) ?_
                refine go_inBlock ?_
                refine r_in ?_
                refine o_batch 0 [] [.p, .p, .p] [(7, .int .i64 76), (8, .int .i64 77), (4, .int .i64 77)] [] trivial trivial (by kernel_rfl) (by kernel_rfl) (by kernel_rfl) ?_
                refine r_out (by kernel_rfl) ?_
                refine go_again ?_
                refine go_gen [(0, .func (.yield l) #[] #[]), (2, .int .i64 8), (3, .int .i64 77), (4, .int .i64 77)] (by kernel_rfl) ?_
                intro _
                replace hI := hI.pick (L' := [B y19.2]) [0] (by decide) rfl
                refine go_seq ?_
                refine go_seq ?_
                refine r_in ?_
                refine o_batch 0 [] [.p, .p] [(5, .int .i64 77), (6, .bool true)] [] trivial trivial (by kernel_rfl) (by kernel_rfl) (by kernel_rfl) ?_
                refine r_out (by kernel_rfl) ?_
                refine go_then (by kernel_rfl) ?_
                refine go_skip ?_
                refine go_seq ?_
                refine go_block ?_
                refine go_seq ?_
                refine go_seq ?_
                refine r_in ?_
                refine o_batch 0 [] [.p, .p, .p, .p, .x, .p, .p] [(9, .int .i64 77), (10, .bool true), (11, .bool true), (12, .int .i64 77), (13, .int .u8 115), (14, .bool true), (15, .bool true)] [(77, (⟨#[114, 101, 97, 100, 45, 99, 111, 109, 109, 105, 116, 116, 101, 100, 32, 99, 117, 114, 115, 111, 114, 45, 115, 116, 97, 98, 108, 101, 32, 114, 101, 97, 100, 45, 97, 116, 111, 109, 105, 99, 32, 99, 97, 117, 115, 97, 108, 32, 112, 114, 101, 102, 105, 120, 32, 115, 110, 97, 112, 115, 104, 111, 116, 32, 115, 101, 114, 105, 97, 108, 105, 122, 97, 98, 108, 101, 32, 115, 116, 114, 105, 99, 116]⟩ : ByteArray).size)] trivial ⟨(by decide), trivial⟩ (by kernel_rfl) (by kernel_rfl) (by kernel_rfl) ?_
                refine r_out (by kernel_rfl) ?_
                refine go_then (by kernel_rfl) ?_
                refine go_exit rfl ?_
                refine r_in ?_
                refine o_batch 0 [] [.p, .p, .p] [(7, .int .i64 77), (8, .int .i64 78), (4, .int .i64 78)] [] trivial trivial (by kernel_rfl) (by kernel_rfl) (by kernel_rfl) ?_
                refine r_out (by kernel_rfl) ?_
                refine go_again ?_
                refine go_gen [(0, .func (.yield l) #[] #[]), (2, .int .i64 8), (3, .int .i64 77), (4, .int .i64 78)] (by kernel_rfl) ?_
                intro _
                replace hI := hI.pick (L' := [B y19.2]) [0] (by decide) rfl
                refine go_seq ?_
                refine go_seq ?_
                refine r_in ?_
                refine o_batch 0 [] [.p, .p] [(5, .int .i64 78), (6, .bool true)] [] trivial trivial (by kernel_rfl) (by kernel_rfl) (by kernel_rfl) ?_
                refine r_out (by kernel_rfl) ?_
                refine go_then (by kernel_rfl) ?_
                refine go_skip ?_
                refine go_seq ?_
                refine go_block ?_
                refine go_seq ?_
                refine go_seq ?_
                refine r_in ?_
                refine o_batch 0 [] [.p, .p, .p, .p, .x, .p, .p] [(9, .int .i64 78), (10, .bool true), (11, .bool true), (12, .int .i64 78), (13, .int .u8 116), (14, .bool true), (15, .bool true)] [(78, (⟨#[114, 101, 97, 100, 45, 99, 111, 109, 109, 105, 116, 116, 101, 100, 32, 99, 117, 114, 115, 111, 114, 45, 115, 116, 97, 98, 108, 101, 32, 114, 101, 97, 100, 45, 97, 116, 111, 109, 105, 99, 32, 99, 97, 117, 115, 97, 108, 32, 112, 114, 101, 102, 105, 120, 32, 115, 110, 97, 112, 115, 104, 111, 116, 32, 115, 101, 114, 105, 97, 108, 105, 122, 97, 98, 108, 101, 32, 115, 116, 114, 105, 99, 116]⟩ : ByteArray).size)] trivial ⟨(by decide), trivial⟩ (by kernel_rfl) (by kernel_rfl) (by kernel_rfl) ?_
                refine r_out (by kernel_rfl) ?_
                refine go_then (by kernel_rfl) ?_
                refine go_exit rfl ?_
                refine r_in ?_
                refine o_batch 0 [] [.p, .p, .p] [(7, .int .i64 78), (8, .int .i64 79), (4, .int .i64 79)] [] trivial trivial (by kernel_rfl) (by kernel_rfl) (by kernel_rfl) ?_
                refine r_out (by kernel_rfl) ?_
                refine go_again ?_
                refine go_gen [(0, .func (.yield l) #[] #[]), (2, .int .i64 8), (3, .int .i64 77), (4, .int .i64 79)] (by kernel_rfl) ?_
                intro _
                replace hI := hI.pick (L' := [B y19.2]) [0] (by decide) rfl
                refine go_seq ?_
                refine go_seq ?_
                refine r_in ?_
                refine o_batch 0 [] [.p, .p] [(5, .int .i64 79), (6, .bool true)] [] trivial trivial (by kernel_rfl) (by kernel_rfl) (by kernel_rfl) ?_
                refine r_out (by kernel_rfl) ?_
                refine go_then (by kernel_rfl) ?_
                refine go_skip ?_
                refine go_seq ?_
                refine go_block ?_
                refine go_seq ?_
                refine go_seq ?_
                refine r_in ?_
                refine o_batch 0 [] [.p, .p, .p, .p, .x, .p, .p] [(9, .int .i64 79), (10, .bool true), (11, .bool true), (12, .int .i64 79), (13, .int .u8 114), (14, .bool true), (15, .bool true)] [(79, (⟨#[114, 101, 97, 100, 45, 99, 111, 109, 109, 105, 116, 116, 101, 100, 32, 99, 117, 114, 115, 111, 114, 45, 115, 116, 97, 98, 108, 101, 32, 114, 101, 97, 100, 45, 97, 116, 111, 109, 105, 99, 32, 99, 97, 117, 115, 97, 108, 32, 112, 114, 101, 102, 105, 120, 32, 115, 110, 97, 112, 115, 104, 111, 116, 32, 115, 101, 114, 105, 97, 108, 105, 122, 97, 98, 108, 101, 32, 115, 116, 114, 105, 99, 116]⟩ : ByteArray).size)] trivial ⟨(by decide), trivial⟩ (by kernel_rfl) (by kernel_rfl) (by kernel_rfl) ?_
                refine r_out (by kernel_rfl) ?_
                refine go_then (by kernel_rfl) ?_
                refine go_exit rfl ?_
                refine r_in ?_
                refine o_batch 0 [] [.p, .p, .p] [(7, .int .i64 79), (8, .int .i64 80), (4, .int .i64 80)] [] trivial trivial (by kernel_rfl) (by kernel_rfl) (by kernel_rfl) ?_
                refine r_out (by kernel_rfl) ?_
                refine go_again ?_
                refine go_gen [(0, .func (.yield l) #[] #[]), (2, .int .i64 8), (3, .int .i64 77), (4, .int .i64 80)] (by kernel_rfl) ?_
                intro _
                replace hI := hI.pick (L' := [B y19.2]) [0] (by decide) rfl
                refine go_seq ?_
                refine go_seq ?_
                refine r_in ?_
                refine o_batch 0 [] [.p, .p] [(5, .int .i64 80), (6, .bool true)] [] trivial trivial (by kernel_rfl) (by kernel_rfl) (by kernel_rfl) ?_
                refine r_out (by kernel_rfl) ?_
                refine go_then (by kernel_rfl) ?_
                refine go_skip ?_
                refine go_seq ?_
                refine go_block ?_
                refine go_seq ?_
                refine go_seq ?_
                refine r_in ?_
                refine o_batch 0 [] [.p, .p, .p, .p, .x, .p, .p] [(9, .int .i64 80), (10, .bool true), (11, .bool true), (12, .int .i64 80), (13, .int .u8 105), (14, .bool true), (15, .bool true)] [(80, (⟨#[114, 101, 97, 100, 45, 99, 111, 109, 109, 105, 116, 116, 101, 100, 32, 99, 117, 114, 115, 111, 114, 45, 115, 116, 97, 98, 108, 101, 32, 114, 101, 97, 100, 45, 97, 116, 111, 109, 105, 99, 32, 99, 97, 117, 115, 97, 108, 32, 112, 114, 101, 102, 105, 120, 32, 115, 110, 97, 112, 115, 104, 111, 116, 32, 115, 101, 114, 105, 97, 108, 105, 122, 97, 98, 108, 101, 32, 115, 116, 114, 105, 99, 116]⟩ : ByteArray).size)] trivial ⟨(by decide), trivial⟩ (by kernel_rfl) (by kernel_rfl) (by kernel_rfl) ?_
                refine r_out (by kernel_rfl) ?_
                refine go_then (by kernel_rfl) ?_
                refine go_exit rfl ?_
                refine r_in ?_
                refine o_batch 0 [] [.p, .p, .p] [(7, .int .i64 80), (8, .int .i64 81), (4, .int .i64 81)] [] trivial trivial (by kernel_rfl) (by kernel_rfl) (by kernel_rfl) ?_
                refine r_out (by kernel_rfl) ?_
                refine go_again ?_
                refine go_gen [(0, .func (.yield l) #[] #[]), (2, .int .i64 8), (3, .int .i64 77), (4, .int .i64 81)] (by kernel_rfl) ?_
                intro _
                replace hI := hI.pick (L' := [B y19.2]) [0] (by decide) rfl
                refine go_seq ?_
                refine go_seq ?_
                refine r_in ?_
                refine o_batch 0 [] [.p, .p] [(5, .int .i64 81), (6, .bool true)] [] trivial trivial (by kernel_rfl) (by kernel_rfl) (by kernel_rfl) ?_
                refine r_out (by kernel_rfl) ?_
                refine go_then (by kernel_rfl) ?_
                refine go_skip ?_
                refine go_seq ?_
                refine go_block ?_
                refine go_seq ?_
                refine go_seq ?_
                refine r_in ?_
                refine o_batch 0 [] [.p, .p, .p, .p, .x, .p, .p] [(9, .int .i64 81), (10, .bool true), (11, .bool true), (12, .int .i64 81), (13, .int .u8 99), (14, .bool true), (15, .bool true)] [(81, (⟨#[114, 101, 97, 100, 45, 99, 111, 109, 109, 105, 116, 116, 101, 100, 32, 99, 117, 114, 115, 111, 114, 45, 115, 116, 97, 98, 108, 101, 32, 114, 101, 97, 100, 45, 97, 116, 111, 109, 105, 99, 32, 99, 97, 117, 115, 97, 108, 32, 112, 114, 101, 102, 105, 120, 32, 115, 110, 97, 112, 115, 104, 111, 116, 32, 115, 101, 114, 105, 97, 108, 105, 122, 97, 98, 108, 101, 32, 115, 116, 114, 105, 99, 116]⟩ : ByteArray).size)] trivial ⟨(by decide), trivial⟩ (by kernel_rfl) (by kernel_rfl) (by kernel_rfl) ?_
                refine r_out (by kernel_rfl) ?_
                refine go_then (by kernel_rfl) ?_
                refine go_exit rfl ?_
                refine r_in ?_
                refine o_batch 0 [] [.p, .p, .p] [(7, .int .i64 81), (8, .int .i64 82), (4, .int .i64 82)] [] trivial trivial (by kernel_rfl) (by kernel_rfl) (by kernel_rfl) ?_
                refine r_out (by kernel_rfl) ?_
                refine go_again ?_
                refine go_gen [(0, .func (.yield l) #[] #[]), (2, .int .i64 8), (3, .int .i64 77), (4, .int .i64 82)] (by kernel_rfl) ?_
                intro _
                replace hI := hI.pick (L' := [B y19.2]) [0] (by decide) rfl
                refine go_seq ?_
                refine go_seq ?_
                refine r_in ?_
                refine o_batch 0 [] [.p, .p] [(5, .int .i64 82), (6, .bool true)] [] trivial trivial (by kernel_rfl) (by kernel_rfl) (by kernel_rfl) ?_
                refine r_out (by kernel_rfl) ?_
                refine go_then (by kernel_rfl) ?_
                refine go_skip ?_
                refine go_seq ?_
                refine go_block ?_
                refine go_seq ?_
                refine go_seq ?_
                refine r_in ?_
                refine o_batch 0 [] [.p, .p, .p, .p, .x, .p, .p] [(9, .int .i64 82), (10, .bool true), (11, .bool true), (12, .int .i64 82), (13, .int .u8 116), (14, .bool true), (15, .bool true)] [(82, (⟨#[114, 101, 97, 100, 45, 99, 111, 109, 109, 105, 116, 116, 101, 100, 32, 99, 117, 114, 115, 111, 114, 45, 115, 116, 97, 98, 108, 101, 32, 114, 101, 97, 100, 45, 97, 116, 111, 109, 105, 99, 32, 99, 97, 117, 115, 97, 108, 32, 112, 114, 101, 102, 105, 120, 32, 115, 110, 97, 112, 115, 104, 111, 116, 32, 115, 101, 114, 105, 97, 108, 105, 122, 97, 98, 108, 101, 32, 115, 116, 114, 105, 99, 116]⟩ : ByteArray).size)] trivial ⟨(by decide), trivial⟩ (by kernel_rfl) (by kernel_rfl) (by kernel_rfl) ?_
                refine r_out (by kernel_rfl) ?_
                refine go_then (by kernel_rfl) ?_
                refine go_exit rfl ?_
                refine r_in ?_
                refine o_batch 0 [] [.p, .p, .p] [(7, .int .i64 82), (8, .int .i64 83), (4, .int .i64 83)] [] trivial trivial (by kernel_rfl) (by kernel_rfl) (by kernel_rfl) ?_
                refine r_out (by kernel_rfl) ?_
                refine go_again ?_
                refine go_gen [(0, .func (.yield l) #[] #[]), (2, .int .i64 8), (3, .int .i64 77), (4, .int .i64 83)] (by kernel_rfl) ?_
                intro _
                replace hI := hI.pick (L' := [B y19.2]) [0] (by decide) rfl
                refine go_seq ?_
                refine go_seq ?_
                refine r_in ?_
                refine o_batch 0 [] [.p, .p] [(5, .int .i64 83), (6, .bool true)] [] trivial trivial (by kernel_rfl) (by kernel_rfl) (by kernel_rfl) ?_
                refine r_out (by kernel_rfl) ?_
                refine go_then (by kernel_rfl) ?_
                refine go_skip ?_
                refine go_seq ?_
                refine go_block ?_
                refine go_seq ?_
                refine go_seq ?_
                refine r_in ?_
                refine o_batch 0 [] [.p, .p, .p, .p, .p, .p, .p] [(9, .int .i64 83), (10, .bool false), (11, .bool false), (12, undef), (13, undef), (14, undef), (15, .bool false)] [] trivial trivial (by kernel_rfl) (by kernel_rfl) (by kernel_rfl) ?_
                refine r_out (by kernel_rfl) ?_
                refine go_else (by kernel_rfl) ?_
                refine go_skip ?_
                refine go_seq ?_
                refine go_seq ?_
                refine r_in ?_
                refine o_batch 0 [] [.p, .p, .p, .p, .x] [(16, .func (.yield l) #[] #[]), (17, .int .i64 8), (18, .int .i64 77), (19, .int .i64 83), (20, .string (⟨#[115, 116, 114, 105, 99, 116]⟩ : ByteArray))] [(77, (83 : Int).toNat + 1), (83, (⟨#[114, 101, 97, 100, 45, 99, 111, 109, 109, 105, 116, 116, 101, 100, 32, 99, 117, 114, 115, 111, 114, 45, 115, 116, 97, 98, 108, 101, 32, 114, 101, 97, 100, 45, 97, 116, 111, 109, 105, 99, 32, 99, 97, 117, 115, 97, 108, 32, 112, 114, 101, 102, 105, 120, 32, 115, 110, 97, 112, 115, 104, 111, 116, 32, 115, 101, 114, 105, 97, 108, 105, 122, 97, 98, 108, 101, 32, 115, 116, 114, 105, 99, 116]⟩ : ByteArray).size + 1)] trivial ⟨(by decide), (by decide), trivial⟩ (by kernel_rfl) (by kernel_rfl) (by kernel_rfl) ?_
                replace H := bind_some H
                obtain ⟨y22, hy23, H⟩ := H
                refine o_yield 5 _ rfl (by kernel_rfl) l _ _ _ _ rfl (by kernel_rfl) (by kernel_rfl) (hY _ _ _ _ _ hy23 hI) ?_
                clear hI
                rintro _ _ ⟨rfl, hI⟩
                refine o_batch 6 [] [.p] [(22, .bool (!y22.1))] [] trivial trivial (by kernel_rfl) (by kernel_rfl) (by kernel_rfl) ?_
                refine r_out (by kernel_rfl) ?_
                replace H := cond_some H
                rcases H with ⟨hc24, H⟩ | ⟨hc24, H⟩
                · refine go_then' (t := !y22.1) (by kernel_rfl) hc24 ?_
                  replace H := Option.some.inj H
                  subst H
                  exact go_return (.tuple #[]) Try.func21 (by kernel_rfl) ⟨rfl, hI⟩
                · refine go_else' (t := !y22.1) (by kernel_rfl) hc24 ?_
                  refine go_skip ?_
                  refine r_in ?_
                  refine o_batch 0 [] [.p, .p, .p, .p, .p, .p] [(23, .int .i64 8), (24, .int .i64 9), (25, .int .i64 83), (26, .int .i64 84), (2, .int .i64 9), (3, .int .i64 84)] [] trivial trivial (by kernel_rfl) (by kernel_rfl) (by kernel_rfl) ?_
                  refine r_out (by kernel_rfl) ?_
                  refine go_inBlock ?_
                  refine r_in ?_
                  refine o_batch 0 [] [.p, .p, .p] [(7, .int .i64 83), (8, .int .i64 84), (4, .int .i64 84)] [] trivial trivial (by kernel_rfl) (by kernel_rfl) (by kernel_rfl) ?_
                  refine r_out (by kernel_rfl) ?_
                  refine go_again ?_
                  refine go_gen [(0, .func (.yield l) #[] #[]), (2, .int .i64 9), (3, .int .i64 84), (4, .int .i64 84)] (by kernel_rfl) ?_
                  intro _
                  replace hI := hI.pick (L' := [B y22.2]) [0] (by decide) rfl
                  refine go_seq ?_
                  refine go_seq ?_
                  refine r_in ?_
                  refine o_batch 0 [] [.p, .p] [(5, .int .i64 84), (6, .bool false)] [] trivial trivial (by kernel_rfl) (by kernel_rfl) (by kernel_rfl) ?_
                  refine r_out (by kernel_rfl) ?_
                  refine go_else (by kernel_rfl) ?_
                  refine go_exit rfl ?_
                  replace H := Option.some.inj H
                  subst H
                  exact go_finish (.tuple #[]) Try.func21 (by kernel_rfl) ⟨rfl, hI⟩

/-! ### level.Name -/
theorem enter8 (a : Array Value) : Sem.pureRun Try.prog (callFunc 8 a) = some (.enter 8 a) := by kernel_rfl
theorem level_Name_calls (a0 : Int) (M : Mem) (w : World) (hI : Inv M w []) (r : ByteArray × Int) (H : level_Name a0 = some r) :
    Calls Try.prog 8 #[.int .i64 a0] w fun e w' => e = .returned (.tuple #[.string r.1, .int .i64 r.2]) ∧ Inv M w' [] := by
  refine calls_goM (updL (fun _ => undef) [(0, .int .i64 a0)]) Try.func8 rfl (by kernel_rfl) ?_
  intro cs
  replace hI := hI.nomarks
  unfold level_Name at H
  refine go_seq ?_
  refine r_in ?_
  refine o_eff 0 _ rfl (by kernel_rfl) ?_
  refine e_box 3 _ (.int .i64 a0) [.int .i64 a0] rfl (by kernel_rfl) rfl hI ?_
  clear hI
  intro b4 _ hI
  refine o_eff 1 _ rfl (by kernel_rfl) ?_
  refine e_alloc 9 (.string (⟨#[]⟩ : ByteArray)) [.string (⟨#[]⟩ : ByteArray)] rfl (by kernel_rfl) rfl hI ?_
  clear hI
  intro b5 _ hI
  refine o_eff 2 _ rfl (by kernel_rfl) ?_
  refine e_alloc 23 (.int .i64 0) [.int .i64 0] rfl (by kernel_rfl) rfl hI ?_
  clear hI
  intro b6 _ hI
  refine r_out (by kernel_rfl) ?_
  refine go_seq ?_
  refine go_block ?_
  replace H := bind_some H
  obtain ⟨o21, ho22, H⟩ := H
  refine go_over (ω := Unit ⊕ ByteArray) (α := Int × ByteArray) 21 #[] #[] (fun a : Int × ByteArray => #[.int .i64 a.1, .string a.2]) (fun a : Int × ByteArray => [(6, .int .i64 a.1), (7, .string a.2)]) (fun rc D l => fun | .inl _ => bagx (fun (_ : Unit) => True) (fun (_ : Unit) => [objA D (.deferred (some [])), objA l (.loop (recAt rc .ready none)), marksA [], .blk b4 3 [.int .i64 a0], .blk b5 9 [.string (⟨#[]⟩ : ByteArray)], .blk b6 23 [.int .i64 0]]) | .inr s18 => bagx (fun (_ : Unit) => True) (fun (_ : Unit) => [objA D (.deferred (some [])), objA l (.loop (recAt rc .done (some .ret))), marksA [], .blk b5 9 [.string s18], .blk b6 23 [.int .i64 0]])) (level_Name.y1 a0) (.inl ()) o21 rfl (by kernel_rfl) enter21 (fun _ => by simp) (fun _ => rfl) hI ?_ ?_ ?_ ?_
  · intro rc D l w hI
    exact Inv.tobag () trivial (hI.pick [0, 1, 2, 3, 4, 5] (by decide) rfl)
  · intro rc D l w hI hY
    exact level_each_calls l _ (level_Name.y1 a0) (.inl ()) M w hI hY _ ho22
  · rintro rc D l (⟨⟩ | _) ⟨a15, a16⟩ r w T H hI
    · obtain ⟨_, _, hI⟩ := hI.unbag
      replace hI : Inv M w [objA D (.deferred (some [])), objA l (.loop (recAt rc .ready none)), marksA [], .blk b4 3 [.int .i64 a0], .blk b5 9 [.string (⟨#[]⟩ : ByteArray)], .blk b6 23 [.int .i64 0], T] := hI
      refine ⟨⟨_, _, _, hI.objAt 1 rfl, rfl⟩, fun c cs => ?_⟩
      refine go_seq ?_
      refine r_in ?_
      refine o_batch 0 [] [.p] [(4, .int .i64 a15)] [] trivial trivial (by kernel_rfl) (by kernel_rfl) (by kernel_rfl) ?_
      refine r_out (by kernel_rfl) ?_
      refine r_in ?_
      refine o_batch 0 [] [.p] [(5, .string a16)] [] trivial trivial (by kernel_rfl) (by kernel_rfl) (by kernel_rfl) ?_
      refine r_out (by kernel_rfl) ?_
      refine go_begin rfl hI 1 rfl rfl ?_
      clear hI
      intro w hI
      refine go_block ?_
      refine go_seq ?_
      refine r_in ?_
      refine o_batch 0 [(b4, 0, [.int .i64 a0])] [.p, .l 0 0, .p] [(8, .int .i64 a15), (9, .int .i64 a0), (10, .bool (a15 == a0))] [] ⟨(hI.grp 3 rfl), trivial⟩ trivial (by kernel_rfl) (by kernel_rfl) (by kernel_rfl) ?_
      refine r_out (by kernel_rfl) ?_
      replace H := cond_some H
      rcases H with ⟨hc20, H⟩ | ⟨hc20, H⟩
      · refine go_then' (t := (a15 == a0)) (by kernel_rfl) hc20 ?_
        refine go_seq ?_
        refine r_in ?_
        refine o_batch 0 [] [.p] [(11, .string a16)] [] trivial trivial (by kernel_rfl) (by kernel_rfl) (by kernel_rfl) ?_
        refine o_eff 1 _ rfl (by kernel_rfl) ?_
        refine e_store 9 _ _ 4 b5 9 [.string (⟨#[]⟩ : ByteArray)] [.string a16] 0 (.string a16) rfl (by kernel_rfl) (by kernel_rfl) (by kernel_rfl) (by kernel_rfl) hI rfl (by kernel_rfl) (by kernel_rfl) ?_
        clear hI
        intro _ hI
        refine o_eff 2 _ rfl (by kernel_rfl) ?_
        refine e_store 23 _ _ 5 b6 23 [.int .i64 0] [.int .i64 0] 0 (.int .i64 0) rfl (by kernel_rfl) (by kernel_rfl) (by kernel_rfl) (by kernel_rfl) hI rfl (by kernel_rfl) (by kernel_rfl) ?_
        clear hI
        intro _ hI
        refine r_out (by kernel_rfl) ?_
        replace H := Option.some.inj H
        subst H
        refine go_round_ret rfl rfl hI 1 rfl ?_
        clear hI
        intro w hI
        exact ⟨_, rfl, rfl, Inv.tobag () trivial (hI.pick [0, 1, 2, 4, 5, 6] (by decide) rfl)⟩
      · refine go_else' (t := (a15 == a0)) (by kernel_rfl) hc20 ?_
        refine go_skip ?_
        refine go_inBlock ?_
        replace H := Option.some.inj H
        subst H
        refine go_round_end rfl rfl hI 1 rfl ?_
        clear hI
        intro w hI
        exact ⟨_, rfl, rfl, Inv.tobag () trivial (hI.pick [0, 1, 2, 3, 4, 5, 6] (by decide) rfl)⟩
    · cases (show (none : Option (Bool × (Unit ⊕ ByteArray))) = some r from H)
  · intro rc D l w hI
    rcases o21 with ⟨⟩ | s18
    · obtain ⟨_, _, hI⟩ := hI.unbag
      replace hI : Inv M w [objA D (.deferred (some [])), objA l (.loop (recAt rc .ready none)), marksA [], .blk b4 3 [.int .i64 a0], .blk b5 9 [.string (⟨#[]⟩ : ByteArray)], .blk b6 23 [.int .i64 0]] := hI
      obtain ⟨w4, hrun, hI⟩ := run_endLoop' (P := Try.prog) hI 1 rfl (by intro h; cases h)
      refine ⟨_, w4, hrun, go_jump0 ?_⟩
      replace hI := (hI.pick (L' := [objA D (.deferred (some [])), marksA [], .blk b4 3 [.int .i64 a0], .blk b5 9 [.string (⟨#[]⟩ : ByteArray)], .blk b6 23 [.int .i64 0]]) [0, 2, 3, 4, 5] (by decide) rfl).addmark
      refine go_inBlock ?_
      refine go_seq ?_
      refine r_in ?_
      refine o_eff 0 _ rfl (by kernel_rfl) ?_
      refine e_store 9 _ _ 2 b5 9 [.string (⟨#[]⟩ : ByteArray)] [.string (⟨#[]⟩ : ByteArray)] 0 (.string (⟨#[]⟩ : ByteArray)) rfl (by kernel_rfl) (by kernel_rfl) (by kernel_rfl) (by kernel_rfl) hI rfl (by kernel_rfl) (by kernel_rfl) ?_
      clear hI
      intro _ hI
      refine o_eff 1 _ rfl (by kernel_rfl) ?_
      refine e_store 23 _ _ 3 b6 23 [.int .i64 0] [.int .i64 1] 0 (.int .i64 1) rfl (by kernel_rfl) (by kernel_rfl) (by kernel_rfl) (by kernel_rfl) hI rfl (by kernel_rfl) (by kernel_rfl) ?_
      clear hI
      intro _ hI
      refine r_out (by kernel_rfl) ?_
      replace H := Option.some.inj H
      subst H
      refine go_ret_marks rfl (L := [.blk b4 3 [.int .i64 a0], .blk b5 9 [.string (⟨#[]⟩ : ByteArray)], .blk b6 23 [.int .i64 1]]) (hI.pick [0, 1, 2, 3] (by decide) rfl) Try.func8 ?_
      clear hI
      intro w hI
      exact ⟨_, run_results (G := [(b5, 0, [.string (⟨#[]⟩ : ByteArray)]), (b6, 0, [.int .i64 1])]) [.c 0, .c 1] [.string (⟨#[]⟩ : ByteArray), .int .i64 1] (.tuple #[.string (⟨#[]⟩ : ByteArray), .int .i64 1]) ⟨(hI.grp 1 rfl), (hI.grp 2 rfl), trivial⟩ (by kernel_rfl) (by kernel_rfl) (by kernel_rfl) (by kernel_rfl), ⟨rfl, hI.pick [] (by decide) rfl⟩⟩
    · obtain ⟨_, _, hI⟩ := hI.unbag
      replace hI : Inv M w [objA D (.deferred (some [])), objA l (.loop (recAt rc .done (some .ret))), marksA [], .blk b5 9 [.string s18], .blk b6 23 [.int .i64 0]] := hI
      obtain ⟨w4, hrun, hI⟩ := run_endLoop' (P := Try.prog) hI 1 rfl (by intro h; cases h)
      refine ⟨_, w4, hrun, go_jump1 ?_⟩
      replace hI := (hI.pick (L' := [objA D (.deferred (some [])), marksA [], .blk b5 9 [.string s18], .blk b6 23 [.int .i64 0]]) [0, 2, 3, 4] (by decide) rfl).addmark
      replace H := Option.some.inj H
      subst H
      refine go_ret_marks rfl (L := [.blk b5 9 [.string s18], .blk b6 23 [.int .i64 0]]) (hI.pick [0, 1, 2] (by decide) rfl) Try.func8 ?_
      clear hI
      intro w hI
      exact ⟨_, run_results (G := [(b5, 0, [.string s18]), (b6, 0, [.int .i64 0])]) [.c 0, .c 1] [.string s18, .int .i64 0] (.tuple #[.string s18, .int .i64 0]) ⟨(hI.grp 0 rfl), (hI.grp 1 rfl), trivial⟩ (by kernel_rfl) (by kernel_rfl) (by kernel_rfl) (by kernel_rfl), ⟨rfl, hI.pick [] (by decide) rfl⟩⟩

/-! ### level.Parse -/
theorem enter10 (a : Array Value) : Sem.pureRun Try.prog (callFunc 10 a) = some (.enter 10 a) := by kernel_rfl
theorem level_Parse_calls (a0 : ByteArray) (M : Mem) (w : World) (hI : Inv M w []) (r : Int × Int) (H : level_Parse a0 = some r) :
    Calls Try.prog 10 #[.string a0] w fun e w' => e = .returned (.tuple #[.int .i64 r.1, .int .i64 r.2]) ∧ Inv M w' [] := by
  refine calls_goM (updL (fun _ => undef) [(0, .string a0)]) Try.func10 rfl (by kernel_rfl) ?_
  intro cs
  replace hI := hI.nomarks
  unfold level_Parse at H
  refine go_seq ?_
  refine r_in ?_
  refine o_eff 0 _ rfl (by kernel_rfl) ?_
  refine e_box 9 _ (.string a0) [.string a0] rfl (by kernel_rfl) rfl hI ?_
  clear hI
  intro b4 _ hI
  refine o_eff 1 _ rfl (by kernel_rfl) ?_
  refine e_alloc 3 (.int .i64 0) [.int .i64 0] rfl (by kernel_rfl) rfl hI ?_
  clear hI
  intro b5 _ hI
  refine o_eff 2 _ rfl (by kernel_rfl) ?_
  refine e_alloc 23 (.int .i64 0) [.int .i64 0] rfl (by kernel_rfl) rfl hI ?_
  clear hI
  intro b6 _ hI
  refine r_out (by kernel_rfl) ?_
  refine go_seq ?_
  refine go_block ?_
  replace H := bind_some H
  obtain ⟨o21, ho22, H⟩ := H
  refine go_over (ω := Unit ⊕ Int) (α := Int × ByteArray) 21 #[] #[] (fun a : Int × ByteArray => #[.int .i64 a.1, .string a.2]) (fun a : Int × ByteArray => [(6, .int .i64 a.1), (7, .string a.2)]) (fun rc D l => fun | .inl _ => bagx (fun (_ : Unit) => True) (fun (_ : Unit) => [objA D (.deferred (some [])), objA l (.loop (recAt rc .ready none)), marksA [], .blk b4 9 [.string a0], .blk b5 3 [.int .i64 0], .blk b6 23 [.int .i64 0]]) | .inr x18 => bagx (fun (_ : Unit) => True) (fun (_ : Unit) => [objA D (.deferred (some [])), objA l (.loop (recAt rc .done (some .ret))), marksA [], .blk b5 3 [.int .i64 x18], .blk b6 23 [.int .i64 0]])) (level_Parse.y1 a0) (.inl ()) o21 rfl (by kernel_rfl) enter21 (fun _ => by simp) (fun _ => rfl) hI ?_ ?_ ?_ ?_
  · intro rc D l w hI
    exact Inv.tobag () trivial (hI.pick [0, 1, 2, 3, 4, 5] (by decide) rfl)
  · intro rc D l w hI hY
    exact level_each_calls l _ (level_Parse.y1 a0) (.inl ()) M w hI hY _ ho22
  · rintro rc D l (⟨⟩ | _) ⟨a15, a16⟩ r w T H hI
    · obtain ⟨_, _, hI⟩ := hI.unbag
      replace hI : Inv M w [objA D (.deferred (some [])), objA l (.loop (recAt rc .ready none)), marksA [], .blk b4 9 [.string a0], .blk b5 3 [.int .i64 0], .blk b6 23 [.int .i64 0], T] := hI
      refine ⟨⟨_, _, _, hI.objAt 1 rfl, rfl⟩, fun c cs => ?_⟩
      refine go_seq ?_
      refine r_in ?_
      refine o_batch 0 [] [.p] [(4, .int .i64 a15)] [] trivial trivial (by kernel_rfl) (by kernel_rfl) (by kernel_rfl) ?_
      refine r_out (by kernel_rfl) ?_
      refine r_in ?_
      refine o_batch 0 [] [.p] [(5, .string a16)] [] trivial trivial (by kernel_rfl) (by kernel_rfl) (by kernel_rfl) ?_
      refine r_out (by kernel_rfl) ?_
      refine go_begin rfl hI 1 rfl rfl ?_
      clear hI
      intro w hI
      refine go_block ?_
      refine go_seq ?_
      refine r_in ?_
      refine o_batch 0 [(b4, 0, [.string a0])] [.p, .l 0 0, .p] [(8, .string a16), (9, .string a0), (10, .bool (sEq a16 a0))] [] ⟨(hI.grp 3 rfl), trivial⟩ trivial (by kernel_rfl) (by kernel_rfl) (by kernel_rfl) ?_
      refine r_out (by kernel_rfl) ?_
      replace H := cond_some H
      rcases H with ⟨hc20, H⟩ | ⟨hc20, H⟩
      · refine go_then' (t := sEq a16 a0) (by kernel_rfl) hc20 ?_
        refine go_seq ?_
        refine r_in ?_
        refine o_batch 0 [] [.p] [(11, .int .i64 a15)] [] trivial trivial (by kernel_rfl) (by kernel_rfl) (by kernel_rfl) ?_
        refine o_eff 1 _ rfl (by kernel_rfl) ?_
        refine e_store 3 _ _ 4 b5 3 [.int .i64 0] [.int .i64 a15] 0 (.int .i64 a15) rfl (by kernel_rfl) (by kernel_rfl) (by kernel_rfl) (by kernel_rfl) hI rfl (by kernel_rfl) (by kernel_rfl) ?_
        clear hI
        intro _ hI
        refine o_eff 2 _ rfl (by kernel_rfl) ?_
        refine e_store 23 _ _ 5 b6 23 [.int .i64 0] [.int .i64 0] 0 (.int .i64 0) rfl (by kernel_rfl) (by kernel_rfl) (by kernel_rfl) (by kernel_rfl) hI rfl (by kernel_rfl) (by kernel_rfl) ?_
        clear hI
        intro _ hI
        refine r_out (by kernel_rfl) ?_
        replace H := Option.some.inj H
        subst H
        refine go_round_ret rfl rfl hI 1 rfl ?_
        clear hI
        intro w hI
        exact ⟨_, rfl, rfl, Inv.tobag () trivial (hI.pick [0, 1, 2, 4, 5, 6] (by decide) rfl)⟩
      · refine go_else' (t := sEq a16 a0) (by kernel_rfl) hc20 ?_
        refine go_skip ?_
        refine go_inBlock ?_
        replace H := Option.some.inj H
        subst H
        refine go_round_end rfl rfl hI 1 rfl ?_
        clear hI
        intro w hI
        exact ⟨_, rfl, rfl, Inv.tobag () trivial (hI.pick [0, 1, 2, 3, 4, 5, 6] (by decide) rfl)⟩
    · cases (show (none : Option (Bool × (Unit ⊕ Int))) = some r from H)
  · intro rc D l w hI
    rcases o21 with ⟨⟩ | x18
    · obtain ⟨_, _, hI⟩ := hI.unbag
      replace hI : Inv M w [objA D (.deferred (some [])), objA l (.loop (recAt rc .ready none)), marksA [], .blk b4 9 [.string a0], .blk b5 3 [.int .i64 0], .blk b6 23 [.int .i64 0]] := hI
      obtain ⟨w4, hrun, hI⟩ := run_endLoop' (P := Try.prog) hI 1 rfl (by intro h; cases h)
      refine ⟨_, w4, hrun, go_jump0 ?_⟩
      replace hI := (hI.pick (L' := [objA D (.deferred (some [])), marksA [], .blk b4 9 [.string a0], .blk b5 3 [.int .i64 0], .blk b6 23 [.int .i64 0]]) [0, 2, 3, 4, 5] (by decide) rfl).addmark
      refine go_inBlock ?_
      refine go_seq ?_
      refine r_in ?_
      refine o_eff 0 _ rfl (by kernel_rfl) ?_
      refine e_store 3 _ _ 2 b5 3 [.int .i64 0] [.int .i64 0] 0 (.int .i64 0) rfl (by kernel_rfl) (by kernel_rfl) (by kernel_rfl) (by kernel_rfl) hI rfl (by kernel_rfl) (by kernel_rfl) ?_
      clear hI
      intro _ hI
      refine o_eff 1 _ rfl (by kernel_rfl) ?_
      refine e_store 23 _ _ 3 b6 23 [.int .i64 0] [.int .i64 1] 0 (.int .i64 1) rfl (by kernel_rfl) (by kernel_rfl) (by kernel_rfl) (by kernel_rfl) hI rfl (by kernel_rfl) (by kernel_rfl) ?_
      clear hI
      intro _ hI
      refine r_out (by kernel_rfl) ?_
      replace H := Option.some.inj H
      subst H
      refine go_ret_marks rfl (L := [.blk b4 9 [.string a0], .blk b5 3 [.int .i64 0], .blk b6 23 [.int .i64 1]]) (hI.pick [0, 1, 2, 3] (by decide) rfl) Try.func10 ?_
      clear hI
      intro w hI
      exact ⟨_, run_results (G := [(b5, 0, [.int .i64 0]), (b6, 0, [.int .i64 1])]) [.c 0, .c 1] [.int .i64 0, .int .i64 1] (.tuple #[.int .i64 0, .int .i64 1]) ⟨(hI.grp 1 rfl), (hI.grp 2 rfl), trivial⟩ (by kernel_rfl) (by kernel_rfl) (by kernel_rfl) (by kernel_rfl), ⟨rfl, hI.pick [] (by decide) rfl⟩⟩
    · obtain ⟨_, _, hI⟩ := hI.unbag
      replace hI : Inv M w [objA D (.deferred (some [])), objA l (.loop (recAt rc .done (some .ret))), marksA [], .blk b5 3 [.int .i64 x18], .blk b6 23 [.int .i64 0]] := hI
      obtain ⟨w4, hrun, hI⟩ := run_endLoop' (P := Try.prog) hI 1 rfl (by intro h; cases h)
      refine ⟨_, w4, hrun, go_jump1 ?_⟩
      replace hI := (hI.pick (L' := [objA D (.deferred (some [])), marksA [], .blk b5 3 [.int .i64 x18], .blk b6 23 [.int .i64 0]]) [0, 2, 3, 4] (by decide) rfl).addmark
      replace H := Option.some.inj H
      subst H
      refine go_ret_marks rfl (L := [.blk b5 3 [.int .i64 x18], .blk b6 23 [.int .i64 0]]) (hI.pick [0, 1, 2] (by decide) rfl) Try.func10 ?_
      clear hI
      intro w hI
      exact ⟨_, run_results (G := [(b5, 0, [.int .i64 x18]), (b6, 0, [.int .i64 0])]) [.c 0, .c 1] [.int .i64 x18, .int .i64 0] (.tuple #[.int .i64 x18, .int .i64 0]) ⟨(hI.grp 0 rfl), (hI.grp 1 rfl), trivial⟩ (by kernel_rfl) (by kernel_rfl) (by kernel_rfl) (by kernel_rfl), ⟨rfl, hI.pick [] (by decide) rfl⟩⟩

/-! ### level.right -/
theorem enter23 (a : Array Value) : Sem.pureRun Try.prog (callFunc 23 a) = some (.enter 23 a) := by kernel_rfl
theorem level_right_calls (a0 : Int) (M : Mem) (w : World) (hI : Inv M w []) (r : Bool) (H : level_right a0 = some r) :
    Calls Try.prog 23 #[.int .i64 a0] w fun e w' => e = .returned (.bool r) ∧ Inv M w' [] := by
  refine calls_go (updL (fun _ => undef) [(0, .int .i64 a0)]) Try.func23 rfl (by kernel_rfl) ?_
  intro cs
  unfold level_right at H
  refine go_seq ?_
  refine r_in ?_
  refine o_batch 0 [] [.p] [(2, .bool false)] [] trivial trivial (by kernel_rfl) (by kernel_rfl) (by kernel_rfl) ?_
  refine r_out (by kernel_rfl) ?_
  refine go_seq ?_
  refine r_in ?_
  replace H := cond_some H
  rcases H with ⟨hc2, H⟩ | ⟨hc2, H⟩
  · refine o_batch 0 [] [.p, .p, .c true, .p, .p, .p, .p] [(3, .int .i64 a0), (4, .bool (decide (a0 ≥ 1))), (5, .bool true), (6, .int .i64 a0), (7, .bool (decide (a0 ≤ 8))), (8, .bool (decide (a0 ≤ 8))), (2, .bool (decide (a0 ≤ 8)))] [((bif (decide (a0 ≥ 1)) == true then 0 else -1), 1)] trivial ⟨(bndEq hc2), trivial⟩ (by kernel_rfl) (by kernel_rfl) (by kernel_rfl) ?_
    refine r_out (by kernel_rfl) ?_
    replace H := Option.some.inj H
    subst H
    exact go_return (.bool (decide (a0 ≤ 8))) Try.func23 (by kernel_rfl) ⟨rfl, hI⟩
  · refine o_batch 0 [] [.p, .p, .c false, .p, .p, .p, .p] [(3, .int .i64 a0), (4, .bool (decide (a0 ≥ 1))), (5, .bool false), (6, undef), (7, undef), (8, .bool false), (2, .bool false)] [((bif (decide (a0 ≥ 1)) == false then 0 else -1), 1)] trivial ⟨(bndEq hc2), trivial⟩ (by kernel_rfl) (by kernel_rfl) (by kernel_rfl) ?_
    refine r_out (by kernel_rfl) ?_
    replace H := Option.some.inj H
    subst H
    exact go_return (.bool false) Try.func23 (by kernel_rfl) ⟨rfl, hI⟩

/-! ### level.Pairs -/
theorem enter14 (a : Array Value) : Sem.pureRun Try.prog (callFunc 14 a) = some (.enter 14 a) := by kernel_rfl
theorem level_Pairs_calls  (M : Mem) (w : World) (hI : Inv M w []) (r : (List (Int × Int))) (H : level_Pairs = some r) :
    Calls Try.prog 14 #[] w fun e w' => ∃ (A4 : Option Addr) (c5 : Nat), e = .returned (.slice A4 r.length c5) ∧ Inv M w' [.row (Ty.flat 2 (fun x : Int × Int => [.int .i64 x.1, .int .i64 x.2]) (fun _ => rfl) (fun _ => oneAll rfl)) 32 A4 r.length c5 r] := by
  refine calls_go (updL (fun _ => undef) []) Try.func14 rfl (by kernel_rfl) ?_
  intro cs
  unfold level_Pairs at H
  refine go_seq ?_
  refine r_in ?_
  refine o_batch 0 [] [.p] [(0, .slice none 0 0)] [] trivial trivial (by kernel_rfl) (by kernel_rfl) (by kernel_rfl) ?_
  refine r_out (by kernel_rfl) ?_
  refine go_seq ?_
  refine r_in ?_
  refine o_batch 0 [] [.p, .p, .p, .p, .p, .p, .p, .p] [(1, .agg #[.int .i64 1, .int .i64 2]), (2, .agg #[.int .i64 2, .int .i64 6]), (3, .agg #[.int .i64 1, .int .i64 3]), (4, .agg #[.int .i64 3, .int .i64 4]), (5, .agg #[.int .i64 4, .int .i64 5]), (6, .agg #[.int .i64 5, .int .i64 6]), (7, .agg #[.int .i64 6, .int .i64 7]), (8, .agg #[.int .i64 7, .int .i64 8])] [] trivial trivial (by kernel_rfl) (by kernel_rfl) (by kernel_rfl) ?_
  refine o_eff 8 _ rfl (by kernel_rfl) ?_
  refine e_parts 30 32 8 _ _ _ #[.int .i64 1, .int .i64 2, .int .i64 2, .int .i64 6, .int .i64 1, .int .i64 3, .int .i64 3, .int .i64 4, .int .i64 4, .int .i64 5, .int .i64 5, .int .i64 6, .int .i64 6, .int .i64 7, .int .i64 7, .int .i64 8] [.int .i64 1, .int .i64 2, .int .i64 2, .int .i64 6, .int .i64 1, .int .i64 3, .int .i64 3, .int .i64 4, .int .i64 4, .int .i64 5, .int .i64 5, .int .i64 6, .int .i64 6, .int .i64 7, .int .i64 7, .int .i64 8] rfl rfl rfl rfl (by kernel_rfl) (by kernel_rfl) (by kernel_rfl) (by kernel_rfl) hI ?_
  clear hI
  intro b2 _ hI
  replace hI := hI.asrow (k := (Ty.flat 2 (fun x : Int × Int => [.int .i64 x.1, .int .i64 x.2]) (fun _ => rfl) (fun _ => oneAll rfl))) (xs := ([((1, 2) : Int × Int), ((2, 6) : Int × Int), ((1, 3) : Int × Int), ((3, 4) : Int × Int), ((4, 5) : Int × Int), ((5, 6) : Int × Int), ((6, 7) : Int × Int), ((7, 8) : Int × Int)] : List (Int × Int))) (cs := [.int .i64 1, .int .i64 2, .int .i64 2, .int .i64 6, .int .i64 1, .int .i64 3, .int .i64 3, .int .i64 4, .int .i64 4, .int .i64 5, .int .i64 5, .int .i64 6, .int .i64 6, .int .i64 7, .int .i64 7, .int .i64 8]) (R := []) (L' := []) 8 0 [] [] (by decide) rfl (mks_cons (mk_flat (k := (Ty.flat 2 (fun x : Int × Int => [.int .i64 x.1, .int .i64 x.2]) (fun _ => rfl) (fun _ => oneAll rfl))) ((1, 2) : Int × Int) [.int .i64 1, .int .i64 2] rfl) (mks_cons (mk_flat (k := (Ty.flat 2 (fun x : Int × Int => [.int .i64 x.1, .int .i64 x.2]) (fun _ => rfl) (fun _ => oneAll rfl))) ((2, 6) : Int × Int) [.int .i64 2, .int .i64 6] rfl) (mks_cons (mk_flat (k := (Ty.flat 2 (fun x : Int × Int => [.int .i64 x.1, .int .i64 x.2]) (fun _ => rfl) (fun _ => oneAll rfl))) ((1, 3) : Int × Int) [.int .i64 1, .int .i64 3] rfl) (mks_cons (mk_flat (k := (Ty.flat 2 (fun x : Int × Int => [.int .i64 x.1, .int .i64 x.2]) (fun _ => rfl) (fun _ => oneAll rfl))) ((3, 4) : Int × Int) [.int .i64 3, .int .i64 4] rfl) (mks_cons (mk_flat (k := (Ty.flat 2 (fun x : Int × Int => [.int .i64 x.1, .int .i64 x.2]) (fun _ => rfl) (fun _ => oneAll rfl))) ((4, 5) : Int × Int) [.int .i64 4, .int .i64 5] rfl) (mks_cons (mk_flat (k := (Ty.flat 2 (fun x : Int × Int => [.int .i64 x.1, .int .i64 x.2]) (fun _ => rfl) (fun _ => oneAll rfl))) ((5, 6) : Int × Int) [.int .i64 5, .int .i64 6] rfl) (mks_cons (mk_flat (k := (Ty.flat 2 (fun x : Int × Int => [.int .i64 x.1, .int .i64 x.2]) (fun _ => rfl) (fun _ => oneAll rfl))) ((6, 7) : Int × Int) [.int .i64 6, .int .i64 7] rfl) (mks_cons (mk_flat (k := (Ty.flat 2 (fun x : Int × Int => [.int .i64 x.1, .int .i64 x.2]) (fun _ => rfl) (fun _ => oneAll rfl))) ((7, 8) : Int × Int) [.int .i64 7, .int .i64 8] rfl) mks_nil)))))))) rfl rfl (by kernel_rfl)
  refine o_batch 9 [] [.p] [(0, .slice (some ⟨b2, 0, none⟩) 8 8)] [] trivial trivial (by kernel_rfl) (by kernel_rfl) (by kernel_rfl) ?_
  refine r_out (by kernel_rfl) ?_
  refine go_is 0 (.slice (some ⟨b2, 0, none⟩) 8 8) (.slice (some ⟨b2, 0, none⟩) (([((1, 2) : Int × Int), ((2, 6) : Int × Int), ((1, 3) : Int × Int), ((3, 4) : Int × Int), ((4, 5) : Int × Int), ((5, 6) : Int × Int), ((6, 7) : Int × Int), ((7, 8) : Int × Int)] : List (Int × Int)).length) 8) (by kernel_rfl) (by first | rfl | simp only [List.length_set, List.length_replicate, List.length_nil]) ?_
  replace hI := hI.renum 0 rfl
  replace H := Option.some.inj H
  subst H
  exact go_return (.slice (some ⟨b2, 0, none⟩) (([((1, 2) : Int × Int), ((2, 6) : Int × Int), ((1, 3) : Int × Int), ((3, 4) : Int × Int), ((4, 5) : Int × Int), ((5, 6) : Int × Int), ((6, 7) : Int × Int), ((7, 8) : Int × Int)] : List (Int × Int)).length) 8) Try.func14 (by kernel_rfl) ⟨(some ⟨b2, 0, none⟩), 8, rfl, hI⟩

end Go.Proofs.YtohaphbogjigcaaT
