/- The same functions with fuel, for what they answer at fixed inputs. -/
import Derived.Test.YtncapkloanfmnaaDoorTD
import Derived.Test.YtncapkloanfmnaaDoorP
namespace Go.Proofs.YtncapkloanfmnaaDoorT
open Go Go.Proofs Go.Proofs.YtncapkloanfmnaaDoorE
set_option linter.unusedVariables false
set_option linter.unusedSimpArgs false
set_option maxHeartbeats 0
set_option maxRecDepth 4096
namespace Fuel
def iterF {σ Ω : Type} (step : σ → Option (σ ⊕ Ω)) (s : σ) : Option Ω := iterN step 4096 s
theorem le_iterF {σ Ω : Type} {f g : σ → Option (σ ⊕ Ω)} {s : σ} (h : ∀ s, Le (f s) (g s)) : Le (iterF f s) (iter g s) := le_iter h
noncomputable def graph_Check_1 (a0 : Int) (a1 : Graph) : Option Bool :=
  bif decide (a0 ≥ 0) then some (decide (a0 < a1.N)) else (some false)
noncomputable def bits_OnesCount32 (a0 : Int) : Option Int :=
  must (0 ≤ (24 : Int) ∧ (24 : Int) < (far : Int)) (must (0 ≤ sShr .u32 a0 (24 : Int) ∧ sShr .u32 a0 (24 : Int) < ((⟨#[0, 1, 1, 2, 1, 2, 2, 3, 1, 2, 2, 3, 2, 3, 3, 4, 1, 2, 2, 3, 2, 3, 3, 4, 2, 3, 3, 4, 3, 4, 4, 5, 1, 2, 2, 3, 2, 3, 3, 4, 2, 3, 3, 4, 3, 4, 4, 5, 2, 3, 3, 4, 3, 4, 4, 5, 3, 4, 4, 5, 4, 5, 5, 6, 1, 2, 2, 3, 2, 3, 3, 4, 2, 3, 3, 4, 3, 4, 4, 5, 2, 3, 3, 4, 3, 4, 4, 5, 3, 4, 4, 5, 4, 5, 5, 6, 2, 3, 3, 4, 3, 4, 4, 5, 3, 4, 4, 5, 4, 5, 5, 6, 3, 4, 4, 5, 4, 5, 5, 6, 4, 5, 5, 6, 5, 6, 6, 7, 1, 2, 2, 3, 2, 3, 3, 4, 2, 3, 3, 4, 3, 4, 4, 5, 2, 3, 3, 4, 3, 4, 4, 5, 3, 4, 4, 5, 4, 5, 5, 6, 2, 3, 3, 4, 3, 4, 4, 5, 3, 4, 4, 5, 4, 5, 5, 6, 3, 4, 4, 5, 4, 5, 5, 6, 4, 5, 5, 6, 5, 6, 6, 7, 2, 3, 3, 4, 3, 4, 4, 5, 3, 4, 4, 5, 4, 5, 5, 6, 3, 4, 4, 5, 4, 5, 5, 6, 4, 5, 5, 6, 5, 6, 6, 7, 3, 4, 4, 5, 4, 5, 5, 6, 4, 5, 5, 6, 5, 6, 6, 7, 4, 5, 5, 6, 5, 6, 6, 7, 5, 6, 6, 7, 6, 7, 7, 8]⟩ : ByteArray).size : Int)) (must (0 ≤ (16 : Int) ∧ (16 : Int) < (far : Int)) (must (0 ≤ bAnd .u32 (sShr .u32 a0 (16 : Int)) 255 ∧ bAnd .u32 (sShr .u32 a0 (16 : Int)) 255 < ((⟨#[0, 1, 1, 2, 1, 2, 2, 3, 1, 2, 2, 3, 2, 3, 3, 4, 1, 2, 2, 3, 2, 3, 3, 4, 2, 3, 3, 4, 3, 4, 4, 5, 1, 2, 2, 3, 2, 3, 3, 4, 2, 3, 3, 4, 3, 4, 4, 5, 2, 3, 3, 4, 3, 4, 4, 5, 3, 4, 4, 5, 4, 5, 5, 6, 1, 2, 2, 3, 2, 3, 3, 4, 2, 3, 3, 4, 3, 4, 4, 5, 2, 3, 3, 4, 3, 4, 4, 5, 3, 4, 4, 5, 4, 5, 5, 6, 2, 3, 3, 4, 3, 4, 4, 5, 3, 4, 4, 5, 4, 5, 5, 6, 3, 4, 4, 5, 4, 5, 5, 6, 4, 5, 5, 6, 5, 6, 6, 7, 1, 2, 2, 3, 2, 3, 3, 4, 2, 3, 3, 4, 3, 4, 4, 5, 2, 3, 3, 4, 3, 4, 4, 5, 3, 4, 4, 5, 4, 5, 5, 6, 2, 3, 3, 4, 3, 4, 4, 5, 3, 4, 4, 5, 4, 5, 5, 6, 3, 4, 4, 5, 4, 5, 5, 6, 4, 5, 5, 6, 5, 6, 6, 7, 2, 3, 3, 4, 3, 4, 4, 5, 3, 4, 4, 5, 4, 5, 5, 6, 3, 4, 4, 5, 4, 5, 5, 6, 4, 5, 5, 6, 5, 6, 6, 7, 3, 4, 4, 5, 4, 5, 5, 6, 4, 5, 5, 6, 5, 6, 6, 7, 4, 5, 5, 6, 5, 6, 6, 7, 5, 6, 6, 7, 6, 7, 7, 8]⟩ : ByteArray).size : Int)) (must (0 ≤ (8 : Int) ∧ (8 : Int) < (far : Int)) (must (0 ≤ bAnd .u32 (sShr .u32 a0 (8 : Int)) 255 ∧ bAnd .u32 (sShr .u32 a0 (8 : Int)) 255 < ((⟨#[0, 1, 1, 2, 1, 2, 2, 3, 1, 2, 2, 3, 2, 3, 3, 4, 1, 2, 2, 3, 2, 3, 3, 4, 2, 3, 3, 4, 3, 4, 4, 5, 1, 2, 2, 3, 2, 3, 3, 4, 2, 3, 3, 4, 3, 4, 4, 5, 2, 3, 3, 4, 3, 4, 4, 5, 3, 4, 4, 5, 4, 5, 5, 6, 1, 2, 2, 3, 2, 3, 3, 4, 2, 3, 3, 4, 3, 4, 4, 5, 2, 3, 3, 4, 3, 4, 4, 5, 3, 4, 4, 5, 4, 5, 5, 6, 2, 3, 3, 4, 3, 4, 4, 5, 3, 4, 4, 5, 4, 5, 5, 6, 3, 4, 4, 5, 4, 5, 5, 6, 4, 5, 5, 6, 5, 6, 6, 7, 1, 2, 2, 3, 2, 3, 3, 4, 2, 3, 3, 4, 3, 4, 4, 5, 2, 3, 3, 4, 3, 4, 4, 5, 3, 4, 4, 5, 4, 5, 5, 6, 2, 3, 3, 4, 3, 4, 4, 5, 3, 4, 4, 5, 4, 5, 5, 6, 3, 4, 4, 5, 4, 5, 5, 6, 4, 5, 5, 6, 5, 6, 6, 7, 2, 3, 3, 4, 3, 4, 4, 5, 3, 4, 4, 5, 4, 5, 5, 6, 3, 4, 4, 5, 4, 5, 5, 6, 4, 5, 5, 6, 5, 6, 6, 7, 3, 4, 4, 5, 4, 5, 5, 6, 4, 5, 5, 6, 5, 6, 6, 7, 4, 5, 5, 6, 5, 6, 6, 7, 5, 6, 6, 7, 6, 7, 7, 8]⟩ : ByteArray).size : Int)) (must (0 ≤ bAnd .u32 a0 255 ∧ bAnd .u32 a0 255 < ((⟨#[0, 1, 1, 2, 1, 2, 2, 3, 1, 2, 2, 3, 2, 3, 3, 4, 1, 2, 2, 3, 2, 3, 3, 4, 2, 3, 3, 4, 3, 4, 4, 5, 1, 2, 2, 3, 2, 3, 3, 4, 2, 3, 3, 4, 3, 4, 4, 5, 2, 3, 3, 4, 3, 4, 4, 5, 3, 4, 4, 5, 4, 5, 5, 6, 1, 2, 2, 3, 2, 3, 3, 4, 2, 3, 3, 4, 3, 4, 4, 5, 2, 3, 3, 4, 3, 4, 4, 5, 3, 4, 4, 5, 4, 5, 5, 6, 2, 3, 3, 4, 3, 4, 4, 5, 3, 4, 4, 5, 4, 5, 5, 6, 3, 4, 4, 5, 4, 5, 5, 6, 4, 5, 5, 6, 5, 6, 6, 7, 1, 2, 2, 3, 2, 3, 3, 4, 2, 3, 3, 4, 3, 4, 4, 5, 2, 3, 3, 4, 3, 4, 4, 5, 3, 4, 4, 5, 4, 5, 5, 6, 2, 3, 3, 4, 3, 4, 4, 5, 3, 4, 4, 5, 4, 5, 5, 6, 3, 4, 4, 5, 4, 5, 5, 6, 4, 5, 5, 6, 5, 6, 6, 7, 2, 3, 3, 4, 3, 4, 4, 5, 3, 4, 4, 5, 4, 5, 5, 6, 3, 4, 4, 5, 4, 5, 5, 6, 4, 5, 5, 6, 5, 6, 6, 7, 3, 4, 4, 5, 4, 5, 5, 6, 4, 5, 5, 6, 5, 6, 6, 7, 4, 5, 5, 6, 5, 6, 6, 7, 5, 6, 6, 7, 6, 7, 7, 8]⟩ : ByteArray).size : Int)) (some (w64 (IntKind.wrap .u8 ((IntKind.wrap .u8 ((IntKind.wrap .u8 ((bt (⟨#[0, 1, 1, 2, 1, 2, 2, 3, 1, 2, 2, 3, 2, 3, 3, 4, 1, 2, 2, 3, 2, 3, 3, 4, 2, 3, 3, 4, 3, 4, 4, 5, 1, 2, 2, 3, 2, 3, 3, 4, 2, 3, 3, 4, 3, 4, 4, 5, 2, 3, 3, 4, 3, 4, 4, 5, 3, 4, 4, 5, 4, 5, 5, 6, 1, 2, 2, 3, 2, 3, 3, 4, 2, 3, 3, 4, 3, 4, 4, 5, 2, 3, 3, 4, 3, 4, 4, 5, 3, 4, 4, 5, 4, 5, 5, 6, 2, 3, 3, 4, 3, 4, 4, 5, 3, 4, 4, 5, 4, 5, 5, 6, 3, 4, 4, 5, 4, 5, 5, 6, 4, 5, 5, 6, 5, 6, 6, 7, 1, 2, 2, 3, 2, 3, 3, 4, 2, 3, 3, 4, 3, 4, 4, 5, 2, 3, 3, 4, 3, 4, 4, 5, 3, 4, 4, 5, 4, 5, 5, 6, 2, 3, 3, 4, 3, 4, 4, 5, 3, 4, 4, 5, 4, 5, 5, 6, 3, 4, 4, 5, 4, 5, 5, 6, 4, 5, 5, 6, 5, 6, 6, 7, 2, 3, 3, 4, 3, 4, 4, 5, 3, 4, 4, 5, 4, 5, 5, 6, 3, 4, 4, 5, 4, 5, 5, 6, 4, 5, 5, 6, 5, 6, 6, 7, 3, 4, 4, 5, 4, 5, 5, 6, 4, 5, 5, 6, 5, 6, 6, 7, 4, 5, 5, 6, 5, 6, 6, 7, 5, 6, 6, 7, 6, 7, 7, 8]⟩ : ByteArray) (sShr .u32 a0 (24 : Int))) + (bt (⟨#[0, 1, 1, 2, 1, 2, 2, 3, 1, 2, 2, 3, 2, 3, 3, 4, 1, 2, 2, 3, 2, 3, 3, 4, 2, 3, 3, 4, 3, 4, 4, 5, 1, 2, 2, 3, 2, 3, 3, 4, 2, 3, 3, 4, 3, 4, 4, 5, 2, 3, 3, 4, 3, 4, 4, 5, 3, 4, 4, 5, 4, 5, 5, 6, 1, 2, 2, 3, 2, 3, 3, 4, 2, 3, 3, 4, 3, 4, 4, 5, 2, 3, 3, 4, 3, 4, 4, 5, 3, 4, 4, 5, 4, 5, 5, 6, 2, 3, 3, 4, 3, 4, 4, 5, 3, 4, 4, 5, 4, 5, 5, 6, 3, 4, 4, 5, 4, 5, 5, 6, 4, 5, 5, 6, 5, 6, 6, 7, 1, 2, 2, 3, 2, 3, 3, 4, 2, 3, 3, 4, 3, 4, 4, 5, 2, 3, 3, 4, 3, 4, 4, 5, 3, 4, 4, 5, 4, 5, 5, 6, 2, 3, 3, 4, 3, 4, 4, 5, 3, 4, 4, 5, 4, 5, 5, 6, 3, 4, 4, 5, 4, 5, 5, 6, 4, 5, 5, 6, 5, 6, 6, 7, 2, 3, 3, 4, 3, 4, 4, 5, 3, 4, 4, 5, 4, 5, 5, 6, 3, 4, 4, 5, 4, 5, 5, 6, 4, 5, 5, 6, 5, 6, 6, 7, 3, 4, 4, 5, 4, 5, 5, 6, 4, 5, 5, 6, 5, 6, 6, 7, 4, 5, 5, 6, 5, 6, 6, 7, 5, 6, 6, 7, 6, 7, 7, 8]⟩ : ByteArray) (bAnd .u32 (sShr .u32 a0 (16 : Int)) 255)))) + (bt (⟨#[0, 1, 1, 2, 1, 2, 2, 3, 1, 2, 2, 3, 2, 3, 3, 4, 1, 2, 2, 3, 2, 3, 3, 4, 2, 3, 3, 4, 3, 4, 4, 5, 1, 2, 2, 3, 2, 3, 3, 4, 2, 3, 3, 4, 3, 4, 4, 5, 2, 3, 3, 4, 3, 4, 4, 5, 3, 4, 4, 5, 4, 5, 5, 6, 1, 2, 2, 3, 2, 3, 3, 4, 2, 3, 3, 4, 3, 4, 4, 5, 2, 3, 3, 4, 3, 4, 4, 5, 3, 4, 4, 5, 4, 5, 5, 6, 2, 3, 3, 4, 3, 4, 4, 5, 3, 4, 4, 5, 4, 5, 5, 6, 3, 4, 4, 5, 4, 5, 5, 6, 4, 5, 5, 6, 5, 6, 6, 7, 1, 2, 2, 3, 2, 3, 3, 4, 2, 3, 3, 4, 3, 4, 4, 5, 2, 3, 3, 4, 3, 4, 4, 5, 3, 4, 4, 5, 4, 5, 5, 6, 2, 3, 3, 4, 3, 4, 4, 5, 3, 4, 4, 5, 4, 5, 5, 6, 3, 4, 4, 5, 4, 5, 5, 6, 4, 5, 5, 6, 5, 6, 6, 7, 2, 3, 3, 4, 3, 4, 4, 5, 3, 4, 4, 5, 4, 5, 5, 6, 3, 4, 4, 5, 4, 5, 5, 6, 4, 5, 5, 6, 5, 6, 6, 7, 3, 4, 4, 5, 4, 5, 5, 6, 4, 5, 5, 6, 5, 6, 6, 7, 4, 5, 5, 6, 5, 6, 6, 7, 5, 6, 6, 7, 6, 7, 7, 8]⟩ : ByteArray) (bAnd .u32 (sShr .u32 a0 (8 : Int)) 255)))) + (bt (⟨#[0, 1, 1, 2, 1, 2, 2, 3, 1, 2, 2, 3, 2, 3, 3, 4, 1, 2, 2, 3, 2, 3, 3, 4, 2, 3, 3, 4, 3, 4, 4, 5, 1, 2, 2, 3, 2, 3, 3, 4, 2, 3, 3, 4, 3, 4, 4, 5, 2, 3, 3, 4, 3, 4, 4, 5, 3, 4, 4, 5, 4, 5, 5, 6, 1, 2, 2, 3, 2, 3, 3, 4, 2, 3, 3, 4, 3, 4, 4, 5, 2, 3, 3, 4, 3, 4, 4, 5, 3, 4, 4, 5, 4, 5, 5, 6, 2, 3, 3, 4, 3, 4, 4, 5, 3, 4, 4, 5, 4, 5, 5, 6, 3, 4, 4, 5, 4, 5, 5, 6, 4, 5, 5, 6, 5, 6, 6, 7, 1, 2, 2, 3, 2, 3, 3, 4, 2, 3, 3, 4, 3, 4, 4, 5, 2, 3, 3, 4, 3, 4, 4, 5, 3, 4, 4, 5, 4, 5, 5, 6, 2, 3, 3, 4, 3, 4, 4, 5, 3, 4, 4, 5, 4, 5, 5, 6, 3, 4, 4, 5, 4, 5, 5, 6, 4, 5, 5, 6, 5, 6, 6, 7, 2, 3, 3, 4, 3, 4, 4, 5, 3, 4, 4, 5, 4, 5, 5, 6, 3, 4, 4, 5, 4, 5, 5, 6, 4, 5, 5, 6, 5, 6, 6, 7, 3, 4, 4, 5, 4, 5, 5, 6, 4, 5, 5, 6, 5, 6, 6, 7, 4, 5, 5, 6, 5, 6, 6, 7, 5, 6, 6, 7, 6, 7, 7, 8]⟩ : ByteArray) (bAnd .u32 a0 255))))))))))))
noncomputable def bits_OnesCount64 (a0 : Int) : Option Int :=
  must (0 ≤ (1 : Int) ∧ (1 : Int) < (far : Int)) (must (0 ≤ (2 : Int) ∧ (2 : Int) < (far : Int)) (must (0 ≤ (4 : Int) ∧ (4 : Int) < (far : Int)) (must (0 ≤ (8 : Int) ∧ (8 : Int) < (far : Int)) (must (0 ≤ (16 : Int) ∧ (16 : Int) < (far : Int)) (must (0 ≤ (32 : Int) ∧ (32 : Int) < (far : Int)) (some (bAnd .i64 (w64 (IntKind.wrap .u64 ((IntKind.wrap .u64 ((IntKind.wrap .u64 ((bAnd .u64 (IntKind.wrap .u64 ((sShr .u64 (IntKind.wrap .u64 ((bAnd .u64 (sShr .u64 (IntKind.wrap .u64 ((bAnd .u64 (sShr .u64 a0 (1 : Int)) 6148914691236517205) + (bAnd .u64 a0 6148914691236517205))) (2 : Int)) 3689348814741910323) + (bAnd .u64 (IntKind.wrap .u64 ((bAnd .u64 (sShr .u64 a0 (1 : Int)) 6148914691236517205) + (bAnd .u64 a0 6148914691236517205))) 3689348814741910323))) (4 : Int)) + (IntKind.wrap .u64 ((bAnd .u64 (sShr .u64 (IntKind.wrap .u64 ((bAnd .u64 (sShr .u64 a0 (1 : Int)) 6148914691236517205) + (bAnd .u64 a0 6148914691236517205))) (2 : Int)) 3689348814741910323) + (bAnd .u64 (IntKind.wrap .u64 ((bAnd .u64 (sShr .u64 a0 (1 : Int)) 6148914691236517205) + (bAnd .u64 a0 6148914691236517205))) 3689348814741910323))))) 1085102592571150095) + (sShr .u64 (bAnd .u64 (IntKind.wrap .u64 ((sShr .u64 (IntKind.wrap .u64 ((bAnd .u64 (sShr .u64 (IntKind.wrap .u64 ((bAnd .u64 (sShr .u64 a0 (1 : Int)) 6148914691236517205) + (bAnd .u64 a0 6148914691236517205))) (2 : Int)) 3689348814741910323) + (bAnd .u64 (IntKind.wrap .u64 ((bAnd .u64 (sShr .u64 a0 (1 : Int)) 6148914691236517205) + (bAnd .u64 a0 6148914691236517205))) 3689348814741910323))) (4 : Int)) + (IntKind.wrap .u64 ((bAnd .u64 (sShr .u64 (IntKind.wrap .u64 ((bAnd .u64 (sShr .u64 a0 (1 : Int)) 6148914691236517205) + (bAnd .u64 a0 6148914691236517205))) (2 : Int)) 3689348814741910323) + (bAnd .u64 (IntKind.wrap .u64 ((bAnd .u64 (sShr .u64 a0 (1 : Int)) 6148914691236517205) + (bAnd .u64 a0 6148914691236517205))) 3689348814741910323))))) 1085102592571150095) (8 : Int)))) + (sShr .u64 (IntKind.wrap .u64 ((bAnd .u64 (IntKind.wrap .u64 ((sShr .u64 (IntKind.wrap .u64 ((bAnd .u64 (sShr .u64 (IntKind.wrap .u64 ((bAnd .u64 (sShr .u64 a0 (1 : Int)) 6148914691236517205) + (bAnd .u64 a0 6148914691236517205))) (2 : Int)) 3689348814741910323) + (bAnd .u64 (IntKind.wrap .u64 ((bAnd .u64 (sShr .u64 a0 (1 : Int)) 6148914691236517205) + (bAnd .u64 a0 6148914691236517205))) 3689348814741910323))) (4 : Int)) + (IntKind.wrap .u64 ((bAnd .u64 (sShr .u64 (IntKind.wrap .u64 ((bAnd .u64 (sShr .u64 a0 (1 : Int)) 6148914691236517205) + (bAnd .u64 a0 6148914691236517205))) (2 : Int)) 3689348814741910323) + (bAnd .u64 (IntKind.wrap .u64 ((bAnd .u64 (sShr .u64 a0 (1 : Int)) 6148914691236517205) + (bAnd .u64 a0 6148914691236517205))) 3689348814741910323))))) 1085102592571150095) + (sShr .u64 (bAnd .u64 (IntKind.wrap .u64 ((sShr .u64 (IntKind.wrap .u64 ((bAnd .u64 (sShr .u64 (IntKind.wrap .u64 ((bAnd .u64 (sShr .u64 a0 (1 : Int)) 6148914691236517205) + (bAnd .u64 a0 6148914691236517205))) (2 : Int)) 3689348814741910323) + (bAnd .u64 (IntKind.wrap .u64 ((bAnd .u64 (sShr .u64 a0 (1 : Int)) 6148914691236517205) + (bAnd .u64 a0 6148914691236517205))) 3689348814741910323))) (4 : Int)) + (IntKind.wrap .u64 ((bAnd .u64 (sShr .u64 (IntKind.wrap .u64 ((bAnd .u64 (sShr .u64 a0 (1 : Int)) 6148914691236517205) + (bAnd .u64 a0 6148914691236517205))) (2 : Int)) 3689348814741910323) + (bAnd .u64 (IntKind.wrap .u64 ((bAnd .u64 (sShr .u64 a0 (1 : Int)) 6148914691236517205) + (bAnd .u64 a0 6148914691236517205))) 3689348814741910323))))) 1085102592571150095) (8 : Int)))) (16 : Int)))) + (sShr .u64 (IntKind.wrap .u64 ((IntKind.wrap .u64 ((bAnd .u64 (IntKind.wrap .u64 ((sShr .u64 (IntKind.wrap .u64 ((bAnd .u64 (sShr .u64 (IntKind.wrap .u64 ((bAnd .u64 (sShr .u64 a0 (1 : Int)) 6148914691236517205) + (bAnd .u64 a0 6148914691236517205))) (2 : Int)) 3689348814741910323) + (bAnd .u64 (IntKind.wrap .u64 ((bAnd .u64 (sShr .u64 a0 (1 : Int)) 6148914691236517205) + (bAnd .u64 a0 6148914691236517205))) 3689348814741910323))) (4 : Int)) + (IntKind.wrap .u64 ((bAnd .u64 (sShr .u64 (IntKind.wrap .u64 ((bAnd .u64 (sShr .u64 a0 (1 : Int)) 6148914691236517205) + (bAnd .u64 a0 6148914691236517205))) (2 : Int)) 3689348814741910323) + (bAnd .u64 (IntKind.wrap .u64 ((bAnd .u64 (sShr .u64 a0 (1 : Int)) 6148914691236517205) + (bAnd .u64 a0 6148914691236517205))) 3689348814741910323))))) 1085102592571150095) + (sShr .u64 (bAnd .u64 (IntKind.wrap .u64 ((sShr .u64 (IntKind.wrap .u64 ((bAnd .u64 (sShr .u64 (IntKind.wrap .u64 ((bAnd .u64 (sShr .u64 a0 (1 : Int)) 6148914691236517205) + (bAnd .u64 a0 6148914691236517205))) (2 : Int)) 3689348814741910323) + (bAnd .u64 (IntKind.wrap .u64 ((bAnd .u64 (sShr .u64 a0 (1 : Int)) 6148914691236517205) + (bAnd .u64 a0 6148914691236517205))) 3689348814741910323))) (4 : Int)) + (IntKind.wrap .u64 ((bAnd .u64 (sShr .u64 (IntKind.wrap .u64 ((bAnd .u64 (sShr .u64 a0 (1 : Int)) 6148914691236517205) + (bAnd .u64 a0 6148914691236517205))) (2 : Int)) 3689348814741910323) + (bAnd .u64 (IntKind.wrap .u64 ((bAnd .u64 (sShr .u64 a0 (1 : Int)) 6148914691236517205) + (bAnd .u64 a0 6148914691236517205))) 3689348814741910323))))) 1085102592571150095) (8 : Int)))) + (sShr .u64 (IntKind.wrap .u64 ((bAnd .u64 (IntKind.wrap .u64 ((sShr .u64 (IntKind.wrap .u64 ((bAnd .u64 (sShr .u64 (IntKind.wrap .u64 ((bAnd .u64 (sShr .u64 a0 (1 : Int)) 6148914691236517205) + (bAnd .u64 a0 6148914691236517205))) (2 : Int)) 3689348814741910323) + (bAnd .u64 (IntKind.wrap .u64 ((bAnd .u64 (sShr .u64 a0 (1 : Int)) 6148914691236517205) + (bAnd .u64 a0 6148914691236517205))) 3689348814741910323))) (4 : Int)) + (IntKind.wrap .u64 ((bAnd .u64 (sShr .u64 (IntKind.wrap .u64 ((bAnd .u64 (sShr .u64 a0 (1 : Int)) 6148914691236517205) + (bAnd .u64 a0 6148914691236517205))) (2 : Int)) 3689348814741910323) + (bAnd .u64 (IntKind.wrap .u64 ((bAnd .u64 (sShr .u64 a0 (1 : Int)) 6148914691236517205) + (bAnd .u64 a0 6148914691236517205))) 3689348814741910323))))) 1085102592571150095) + (sShr .u64 (bAnd .u64 (IntKind.wrap .u64 ((sShr .u64 (IntKind.wrap .u64 ((bAnd .u64 (sShr .u64 (IntKind.wrap .u64 ((bAnd .u64 (sShr .u64 a0 (1 : Int)) 6148914691236517205) + (bAnd .u64 a0 6148914691236517205))) (2 : Int)) 3689348814741910323) + (bAnd .u64 (IntKind.wrap .u64 ((bAnd .u64 (sShr .u64 a0 (1 : Int)) 6148914691236517205) + (bAnd .u64 a0 6148914691236517205))) 3689348814741910323))) (4 : Int)) + (IntKind.wrap .u64 ((bAnd .u64 (sShr .u64 (IntKind.wrap .u64 ((bAnd .u64 (sShr .u64 a0 (1 : Int)) 6148914691236517205) + (bAnd .u64 a0 6148914691236517205))) (2 : Int)) 3689348814741910323) + (bAnd .u64 (IntKind.wrap .u64 ((bAnd .u64 (sShr .u64 a0 (1 : Int)) 6148914691236517205) + (bAnd .u64 a0 6148914691236517205))) 3689348814741910323))))) 1085102592571150095) (8 : Int)))) (16 : Int)))) (32 : Int))))) 127)))))))
noncomputable def bits_OnesCount (a0 : Int) : Option Int :=
  (bits_OnesCount64 a0).bind fun y3 => some y3
noncomputable def graph_Check.j3 (x165 : Int) (b218 : Bool) : Option (Int ⊕ Int) :=
  bif b218 then out (some 60) else (some (.inl (w64 (x165 + 1))))
noncomputable def graph_Check.s2 (a0 : Graph) : Int → Option (Int ⊕ Int)
  | x165 => bif decide (x165 < (a0.Edges.length : Int)) then must (0 ≤ x165 ∧ x165 < (a0.Edges.length : Int)) ((graph_Check_1 ((idx a0.Edges x165).From) a0).bind fun y221 => bif !y221 then graph_Check.j3 x165 true else ((graph_Check_1 ((idx a0.Edges x165).To) a0).bind fun y224 => bif !y224 then graph_Check.j3 x165 true else (bif decide ((idx a0.Edges x165).Kind < 1) then graph_Check.j3 x165 true else (bif decide ((idx a0.Edges x165).Kind > 16) then graph_Check.j3 x165 true else ((bits_OnesCount (IntKind.wrap .u64 ((idx a0.Edges x165).Kind))).bind fun y229 => graph_Check.j3 x165 (y229 != 1)))))) else (out (some 0))
noncomputable def graph_Check.j1 (a0 : Graph) (b9 : Bool) : Option Int :=
  bif b9 then some 60 else (iterF (graph_Check.s2 a0) 0)
noncomputable def graph_Check (a0 : Graph) : Option Int :=
  bif decide (a0.N < 0) then graph_Check.j1 a0 true else (bif decide (a0.N > 64) then graph_Check.j1 a0 true else (graph_Check.j1 a0 (decide ((a0.Edges.length : Int) > 262144))))
noncomputable def graph_spread.s1 (a0 : Int) (a1 : Int) : (List Bool × Int) → Option ((List Bool × Int) ⊕ (List Bool))
  | (l102, x105) => bif decide (x105 < (a1.toNat : Int)) then must (0 ≤ x105 ∧ x105 < (far : Int)) (must (0 ≤ x105 ∧ x105 < (l102.length : Int)) (some (.inl (l102.set x105.toNat (bAnd .u64 (sShr .u64 a0 x105) 1 == 1), w64 (x105 + 1))))) else (out (some l102))
noncomputable def graph_spread (a0 : Int) (a1 : Int) : Option (List Bool) :=
  must (0 ≤ a1 ∧ a1 ≤ 9223372036854775807 ∧ (1 : Int) * a1 ≤ 281474976710656) (iterF (graph_spread.s1 a0 a1) (List.replicate a1.toNat (default : Bool), 0))
noncomputable def graph_from.s2 (a0 : List Int) (x233 : Int) : (Int × Int) → Option ((Int × Int) ⊕ ((Int × Int) ⊕ Int))
  | (x323, x324) => bif (x323 != 0) then (bits_TrailingZeros64 x323).bind fun y333 => must (0 ≤ y333 ∧ y333 < (a0.length : Int)) (some (.inl (bAnd .u64 x323 (IntKind.wrap .u64 (x323 - 1)), bOr .u64 x324 (idx a0 y333)))) else (out (some (.inl (bOr .u64 x233 x324, bAndNot .u64 x324 x233))))
noncomputable def graph_from.s1 (a0 : List Int) : (Int × Int) → Option ((Int × Int) ⊕ Int)
  | (x233, x234) => bif (x234 != 0) then iterF (graph_from.s2 a0 x233) (x234, 0) else (out (some x233))
noncomputable def graph_from (a0 : List Int) (a1 : Int) : Option Int :=
  must (0 ≤ a1 ∧ a1 < (a0.length : Int)) (iterF (graph_from.s1 a0) (idx a0 a1, idx a0 a1))
noncomputable def graph_rows.j2 (x171 : Int) (l193 : List Int) : Option ((List Int × Int) ⊕ (List Int)) :=
  some (.inl (l193, w64 (x171 + 1)))
noncomputable def graph_rows.s1 (a0 : Graph) (a1 : Int) : (List Int × Int) → Option ((List Int × Int) ⊕ (List Int))
  | (l168, x171) => bif decide (x171 < (a0.Edges.length : Int)) then must (0 ≤ x171 ∧ x171 < (a0.Edges.length : Int)) (bif (bAnd .i64 ((idx a0.Edges x171).Kind) a1 != 0) then must (0 ≤ (idx a0.Edges x171).From ∧ (idx a0.Edges x171).From < (l168.length : Int)) (must (0 ≤ (idx a0.Edges x171).To ∧ (idx a0.Edges x171).To < (far : Int)) (graph_rows.j2 x171 (l168.set ((idx a0.Edges x171).From).toNat (bOr .u64 (idx l168 ((idx a0.Edges x171).From)) (sShl .u64 1 ((idx a0.Edges x171).To)))))) else (graph_rows.j2 x171 l168)) else (out (some l168))
noncomputable def graph_rows (a0 : Graph) (a1 : Int) : Option (List Int) :=
  must (0 ≤ a0.N ∧ a0.N ≤ 9223372036854775807 ∧ (8 : Int) * a0.N ≤ 281474976710656) (iterF (graph_rows.s1 a0 a1) (List.replicate a0.N.toNat (default : Int), 0))
noncomputable def graph_Reach.j1 (a0 : Graph) (a1 : Int) (a2 : Int) (b15 : Bool) : Option (List Bool × Int) :=
  bif b15 then some (([] : List Bool), 1) else ((graph_rows a0 a1).bind fun y28 => (graph_from y28 a2).bind fun y32 => (graph_spread y32 a0.N).bind fun y34 => some (y34, 0))
noncomputable def graph_Reach (a0 : Graph) (a1 : Int) (a2 : Int) : Option (List Bool × Int) :=
  (graph_Check a0).bind fun y8 => bif (y8 != 0) then some (([] : List Bool), y8) else (bif decide (a2 < 0) then graph_Reach.j1 a0 a1 a2 true else (graph_Reach.j1 a0 a1 a2 (decide (a2 ≥ a0.N))))
noncomputable def graph_Order.s2 (x775 : Int) : (List Int × Int) → Option ((List Int × Int) ⊕ ((List Int × Int) ⊕ (List Int × Bool × Int)))
  | (l944, x947) => bif (x947 != 0) then (bits_TrailingZeros64 x947).bind fun y960 => must (0 ≤ y960 ∧ y960 < (l944.length : Int)) (must (0 ≤ x775 ∧ x775 < (far : Int)) (some (.inl (l944.set y960.toNat (bOr .u64 (idx l944 y960) (sShl .u64 1 x775)), bAnd .u64 x947 (IntKind.wrap .u64 (x947 - 1)))))) else (out (some (.inl (l944, w64 (x775 + 1)))))
noncomputable def graph_Order.j5 (l1377 : List Int) (x1380 : Int) (x1538 : Int) (b1569 : Bool) : Option (Int ⊕ ((List Int × Int) ⊕ ((List Int × Int) ⊕ (List Int × Bool × Int)))) :=
  bif b1569 then must (0 ≤ x1538 ∧ x1538 < (far : Int)) (must ((l1377.length + 1) * 8 ≤ 140737488355328 ∧ l1377.length + 1 ≤ 9223372036854775807) (out (some (.inl (l1377 ++ ([x1538] : List Int), bOr .u64 x1380 (sShl .u64 1 x1538)))))) else (some (.inl (w64 (x1538 + 1))))
noncomputable def graph_Order.s4 (l772 : List Int) (l1377 : List Int) (x1380 : Int) : Int → Option (Int ⊕ ((List Int × Int) ⊕ ((List Int × Int) ⊕ (List Int × Bool × Int))))
  | x1538 => bif decide (x1538 < (l772.length : Int)) then must (0 ≤ x1538 ∧ x1538 < (l772.length : Int)) (must (0 ≤ x1538 ∧ x1538 < (far : Int)) (bif (bAnd .u64 (sShr .u64 x1380 x1538) 1 == 0) then graph_Order.j5 l1377 x1380 x1538 (bAndNot .u64 (idx l772 x1538) x1380 == 0) else (graph_Order.j5 l1377 x1380 x1538 false))) else (out (out (out (some (([] : List Int), false, 0)))))
noncomputable def graph_Order.s3 (a0 : Graph) (l772 : List Int) : (List Int × Int) → Option ((List Int × Int) ⊕ ((List Int × Int) ⊕ (List Int × Bool × Int)))
  | (l1377, x1380) => bif decide ((l1377.length : Int) < a0.N) then iterF (graph_Order.s4 l772 l1377 x1380) 0 else (out (out (some (l1377, true, 0))))
noncomputable def graph_Order.s1 (a0 : Graph) (y501 : List Int) : (List Int × Int) → Option ((List Int × Int) ⊕ (List Int × Bool × Int))
  | (l772, x775) => bif decide (x775 < (y501.length : Int)) then must (0 ≤ x775 ∧ x775 < (y501.length : Int)) (iterF (graph_Order.s2 x775) (l772, idx y501 x775)) else (iterF (graph_Order.s3 a0 l772) ([], 0))
noncomputable def graph_Order (a0 : Graph) (a1 : Int) : Option (List Int × Bool × Int) :=
  (graph_Check a0).bind fun y328 => bif (y328 != 0) then some (([] : List Int), false, y328) else (must (0 ≤ a0.N ∧ a0.N ≤ 9223372036854775807 ∧ (8 : Int) * a0.N ≤ 281474976710656) ((graph_rows a0 a1).bind fun y501 => iterF (graph_Order.s1 a0 y501) (List.replicate a0.N.toNat (default : Int), 0)))
noncomputable def assizelaw06zalive : Option Bool :=
  (graph_Order (⟨3, ([(⟨2, 1, 8, 0⟩ : Edge), (⟨1, 0, 4, 0⟩ : Edge)] : List Edge)⟩ : Graph) 12).bind fun y9 => (graph_Reach (⟨3, ([(⟨2, 1, 8, 0⟩ : Edge), (⟨1, 0, 4, 0⟩ : Edge)] : List Edge)⟩ : Graph) 8 2).bind fun y17 => bif (y9.2.2 == 0) then bif y9.2.1 then bif ((y9.1.length : Int) == 3) then must (0 ≤ (0 : Int) ∧ (0 : Int) < (y9.1.length : Int)) (bif (idx y9.1 (0 : Int) == 2) then must (0 ≤ (2 : Int) ∧ (2 : Int) < (y9.1.length : Int)) (bif (idx y9.1 (2 : Int) == 0) then bif (y17.2 == 0) then bif ((y17.1.length : Int) == 3) then must (0 ≤ (1 : Int) ∧ (1 : Int) < (y17.1.length : Int)) (bif idx y17.1 (1 : Int) then must (0 ≤ (0 : Int) ∧ (0 : Int) < (y17.1.length : Int)) (bif !(idx y17.1 (0 : Int)) then (graph_Check (⟨(-1), ([] : List Edge)⟩ : Graph)).bind fun y53 => some (y53 == 60) else (some false)) else (some false)) else (some false) else (some false) else (some false)) else (some false)) else (some false) else (some false) else (some false)
end Fuel
theorem graph_Check_1zle (a0 : Int) (a1 : Graph) : Le (Fuel.graph_Check_1 a0 a1) (graph_Check_1 a0 a1) := by
  simp only [Fuel.graph_Check_1, graph_Check_1]
  repeat' (first | with_reducible exact le_refl _ | with_reducible apply le_must | with_reducible apply le_cond | with_reducible apply le_out | with_reducible refine le_bind ?_ (fun _ => ?_) | with_reducible refine Fuel.le_iterF (fun _ => ?_))

theorem bits_OnesCount32zle (a0 : Int) : Le (Fuel.bits_OnesCount32 a0) (bits_OnesCount32 a0) := by
  simp only [Fuel.bits_OnesCount32, bits_OnesCount32]
  repeat' (first | with_reducible exact le_refl _ | with_reducible apply le_must | with_reducible apply le_cond | with_reducible apply le_out | with_reducible refine le_bind ?_ (fun _ => ?_) | with_reducible refine Fuel.le_iterF (fun _ => ?_))

theorem bits_OnesCount64zle (a0 : Int) : Le (Fuel.bits_OnesCount64 a0) (bits_OnesCount64 a0) := by
  simp only [Fuel.bits_OnesCount64, bits_OnesCount64]
  repeat' (first | with_reducible exact le_refl _ | with_reducible apply le_must | with_reducible apply le_cond | with_reducible apply le_out | with_reducible refine le_bind ?_ (fun _ => ?_) | with_reducible refine Fuel.le_iterF (fun _ => ?_))

theorem bits_OnesCount_le (a0 : Int) : Le (Fuel.bits_OnesCount a0) (bits_OnesCount a0) := by
  simp only [Fuel.bits_OnesCount, bits_OnesCount]
  repeat' (first | with_reducible exact le_refl _ | with_reducible apply bits_OnesCount64zle | with_reducible apply le_must | with_reducible apply le_cond | with_reducible apply le_out | with_reducible refine le_bind ?_ (fun _ => ?_) | with_reducible refine Fuel.le_iterF (fun _ => ?_))

theorem graph_Check.j3zle (x165 : Int) (b218 : Bool) : Le (Fuel.graph_Check.j3 x165 b218) (graph_Check.j3 x165 b218) := by
  simp only [Fuel.graph_Check.j3, graph_Check.j3]
  repeat' (first | with_reducible exact le_refl _ | with_reducible apply le_must | with_reducible apply le_cond | with_reducible apply le_out | with_reducible refine le_bind ?_ (fun _ => ?_) | with_reducible refine Fuel.le_iterF (fun _ => ?_))

theorem graph_Check.s2zle (a0 : Graph) (s : _) : Le (Fuel.graph_Check.s2 a0 s) (graph_Check.s2 a0 s) := by
  simp only [Fuel.graph_Check.s2, graph_Check.s2]
  repeat' (first | with_reducible exact le_refl _ | with_reducible apply graph_Check_1zle | with_reducible apply bits_OnesCount_le | with_reducible apply graph_Check.j3zle | with_reducible apply le_must | with_reducible apply le_cond | with_reducible apply le_out | with_reducible refine le_bind ?_ (fun _ => ?_) | with_reducible refine Fuel.le_iterF (fun _ => ?_))

theorem graph_Check.j1zle (a0 : Graph) (b9 : Bool) : Le (Fuel.graph_Check.j1 a0 b9) (graph_Check.j1 a0 b9) := by
  simp only [Fuel.graph_Check.j1, graph_Check.j1]
  repeat' (first | with_reducible exact le_refl _ | with_reducible apply graph_Check.s2zle | with_reducible apply le_must | with_reducible apply le_cond | with_reducible apply le_out | with_reducible refine le_bind ?_ (fun _ => ?_) | with_reducible refine Fuel.le_iterF (fun _ => ?_))

theorem graph_Check_le (a0 : Graph) : Le (Fuel.graph_Check a0) (graph_Check a0) := by
  simp only [Fuel.graph_Check, graph_Check]
  repeat' (first | with_reducible exact le_refl _ | with_reducible apply graph_Check.j1zle | with_reducible apply le_must | with_reducible apply le_cond | with_reducible apply le_out | with_reducible refine le_bind ?_ (fun _ => ?_) | with_reducible refine Fuel.le_iterF (fun _ => ?_))

theorem graph_spread.s1zle (a0 : Int) (a1 : Int) (s : _) : Le (Fuel.graph_spread.s1 a0 a1 s) (graph_spread.s1 a0 a1 s) := by
  obtain ⟨l102, x105⟩ := s
  simp only [Fuel.graph_spread.s1, graph_spread.s1]
  repeat' (first | with_reducible exact le_refl _ | with_reducible apply le_must | with_reducible apply le_cond | with_reducible apply le_out | with_reducible refine le_bind ?_ (fun _ => ?_) | with_reducible refine Fuel.le_iterF (fun _ => ?_))

theorem graph_spread_le (a0 : Int) (a1 : Int) : Le (Fuel.graph_spread a0 a1) (graph_spread a0 a1) := by
  simp only [Fuel.graph_spread, graph_spread]
  repeat' (first | with_reducible exact le_refl _ | with_reducible apply graph_spread.s1zle | with_reducible apply le_must | with_reducible apply le_cond | with_reducible apply le_out | with_reducible refine le_bind ?_ (fun _ => ?_) | with_reducible refine Fuel.le_iterF (fun _ => ?_))

theorem graph_from.s2zle (a0 : List Int) (x233 : Int) (s : _) : Le (Fuel.graph_from.s2 a0 x233 s) (graph_from.s2 a0 x233 s) := by
  obtain ⟨x323, x324⟩ := s
  simp only [Fuel.graph_from.s2, graph_from.s2]
  repeat' (first | with_reducible exact le_refl _ | with_reducible apply le_must | with_reducible apply le_cond | with_reducible apply le_out | with_reducible refine le_bind ?_ (fun _ => ?_) | with_reducible refine Fuel.le_iterF (fun _ => ?_))

theorem graph_from.s1zle (a0 : List Int) (s : _) : Le (Fuel.graph_from.s1 a0 s) (graph_from.s1 a0 s) := by
  obtain ⟨x233, x234⟩ := s
  simp only [Fuel.graph_from.s1, graph_from.s1]
  repeat' (first | with_reducible exact le_refl _ | with_reducible apply graph_from.s2zle | with_reducible apply le_must | with_reducible apply le_cond | with_reducible apply le_out | with_reducible refine le_bind ?_ (fun _ => ?_) | with_reducible refine Fuel.le_iterF (fun _ => ?_))

theorem graph_from_le (a0 : List Int) (a1 : Int) : Le (Fuel.graph_from a0 a1) (graph_from a0 a1) := by
  simp only [Fuel.graph_from, graph_from]
  repeat' (first | with_reducible exact le_refl _ | with_reducible apply graph_from.s1zle | with_reducible apply le_must | with_reducible apply le_cond | with_reducible apply le_out | with_reducible refine le_bind ?_ (fun _ => ?_) | with_reducible refine Fuel.le_iterF (fun _ => ?_))

theorem graph_rows.j2zle (x171 : Int) (l193 : List Int) : Le (Fuel.graph_rows.j2 x171 l193) (graph_rows.j2 x171 l193) := by
  simp only [Fuel.graph_rows.j2, graph_rows.j2]
  repeat' (first | with_reducible exact le_refl _ | with_reducible apply le_must | with_reducible apply le_cond | with_reducible apply le_out | with_reducible refine le_bind ?_ (fun _ => ?_) | with_reducible refine Fuel.le_iterF (fun _ => ?_))

theorem graph_rows.s1zle (a0 : Graph) (a1 : Int) (s : _) : Le (Fuel.graph_rows.s1 a0 a1 s) (graph_rows.s1 a0 a1 s) := by
  obtain ⟨l168, x171⟩ := s
  simp only [Fuel.graph_rows.s1, graph_rows.s1]
  repeat' (first | with_reducible exact le_refl _ | with_reducible apply graph_rows.j2zle | with_reducible apply le_must | with_reducible apply le_cond | with_reducible apply le_out | with_reducible refine le_bind ?_ (fun _ => ?_) | with_reducible refine Fuel.le_iterF (fun _ => ?_))

theorem graph_rows_le (a0 : Graph) (a1 : Int) : Le (Fuel.graph_rows a0 a1) (graph_rows a0 a1) := by
  simp only [Fuel.graph_rows, graph_rows]
  repeat' (first | with_reducible exact le_refl _ | with_reducible apply graph_rows.s1zle | with_reducible apply le_must | with_reducible apply le_cond | with_reducible apply le_out | with_reducible refine le_bind ?_ (fun _ => ?_) | with_reducible refine Fuel.le_iterF (fun _ => ?_))

theorem graph_Reach.j1zle (a0 : Graph) (a1 : Int) (a2 : Int) (b15 : Bool) : Le (Fuel.graph_Reach.j1 a0 a1 a2 b15) (graph_Reach.j1 a0 a1 a2 b15) := by
  simp only [Fuel.graph_Reach.j1, graph_Reach.j1]
  repeat' (first | with_reducible exact le_refl _ | with_reducible apply graph_spread_le | with_reducible apply graph_from_le | with_reducible apply graph_rows_le | with_reducible apply le_must | with_reducible apply le_cond | with_reducible apply le_out | with_reducible refine le_bind ?_ (fun _ => ?_) | with_reducible refine Fuel.le_iterF (fun _ => ?_))

theorem graph_Reach_le (a0 : Graph) (a1 : Int) (a2 : Int) : Le (Fuel.graph_Reach a0 a1 a2) (graph_Reach a0 a1 a2) := by
  simp only [Fuel.graph_Reach, graph_Reach]
  repeat' (first | with_reducible exact le_refl _ | with_reducible apply graph_Check_le | with_reducible apply graph_Reach.j1zle | with_reducible apply le_must | with_reducible apply le_cond | with_reducible apply le_out | with_reducible refine le_bind ?_ (fun _ => ?_) | with_reducible refine Fuel.le_iterF (fun _ => ?_))

theorem graph_Order.s2zle (x775 : Int) (s : _) : Le (Fuel.graph_Order.s2 x775 s) (graph_Order.s2 x775 s) := by
  obtain ⟨l944, x947⟩ := s
  simp only [Fuel.graph_Order.s2, graph_Order.s2]
  repeat' (first | with_reducible exact le_refl _ | with_reducible apply le_must | with_reducible apply le_cond | with_reducible apply le_out | with_reducible refine le_bind ?_ (fun _ => ?_) | with_reducible refine Fuel.le_iterF (fun _ => ?_))

theorem graph_Order.j5zle (l1377 : List Int) (x1380 : Int) (x1538 : Int) (b1569 : Bool) : Le (Fuel.graph_Order.j5 l1377 x1380 x1538 b1569) (graph_Order.j5 l1377 x1380 x1538 b1569) := by
  simp only [Fuel.graph_Order.j5, graph_Order.j5]
  repeat' (first | with_reducible exact le_refl _ | with_reducible apply le_must | with_reducible apply le_cond | with_reducible apply le_out | with_reducible refine le_bind ?_ (fun _ => ?_) | with_reducible refine Fuel.le_iterF (fun _ => ?_))

theorem graph_Order.s4zle (l772 : List Int) (l1377 : List Int) (x1380 : Int) (s : _) : Le (Fuel.graph_Order.s4 l772 l1377 x1380 s) (graph_Order.s4 l772 l1377 x1380 s) := by
  simp only [Fuel.graph_Order.s4, graph_Order.s4]
  repeat' (first | with_reducible exact le_refl _ | with_reducible apply graph_Order.j5zle | with_reducible apply le_must | with_reducible apply le_cond | with_reducible apply le_out | with_reducible refine le_bind ?_ (fun _ => ?_) | with_reducible refine Fuel.le_iterF (fun _ => ?_))

theorem graph_Order.s3zle (a0 : Graph) (l772 : List Int) (s : _) : Le (Fuel.graph_Order.s3 a0 l772 s) (graph_Order.s3 a0 l772 s) := by
  obtain ⟨l1377, x1380⟩ := s
  simp only [Fuel.graph_Order.s3, graph_Order.s3]
  repeat' (first | with_reducible exact le_refl _ | with_reducible apply graph_Order.s4zle | with_reducible apply le_must | with_reducible apply le_cond | with_reducible apply le_out | with_reducible refine le_bind ?_ (fun _ => ?_) | with_reducible refine Fuel.le_iterF (fun _ => ?_))

theorem graph_Order.s1zle (a0 : Graph) (y501 : List Int) (s : _) : Le (Fuel.graph_Order.s1 a0 y501 s) (graph_Order.s1 a0 y501 s) := by
  obtain ⟨l772, x775⟩ := s
  simp only [Fuel.graph_Order.s1, graph_Order.s1]
  repeat' (first | with_reducible exact le_refl _ | with_reducible apply graph_Order.s2zle | with_reducible apply graph_Order.s3zle | with_reducible apply le_must | with_reducible apply le_cond | with_reducible apply le_out | with_reducible refine le_bind ?_ (fun _ => ?_) | with_reducible refine Fuel.le_iterF (fun _ => ?_))

theorem graph_Order_le (a0 : Graph) (a1 : Int) : Le (Fuel.graph_Order a0 a1) (graph_Order a0 a1) := by
  simp only [Fuel.graph_Order, graph_Order]
  repeat' (first | with_reducible exact le_refl _ | with_reducible apply graph_Check_le | with_reducible apply graph_rows_le | with_reducible apply graph_Order.s1zle | with_reducible apply le_must | with_reducible apply le_cond | with_reducible apply le_out | with_reducible refine le_bind ?_ (fun _ => ?_) | with_reducible refine Fuel.le_iterF (fun _ => ?_))

theorem assizelaw06zalive_le  : Le (Fuel.assizelaw06zalive) (assizelaw06zalive) := by
  simp only [Fuel.assizelaw06zalive, assizelaw06zalive]
  repeat' (first | with_reducible exact le_refl _ | with_reducible apply graph_Check_le | with_reducible apply graph_Reach_le | with_reducible apply graph_Order_le | with_reducible apply le_must | with_reducible apply le_cond | with_reducible apply le_out | with_reducible refine le_bind ?_ (fun _ => ?_) | with_reducible refine Fuel.le_iterF (fun _ => ?_))

theorem assizelaw06zalive_true : assizelaw06zalive = some true := assizelaw06zalive_le _ (by decide +kernel)
end Go.Proofs.YtncapkloanfmnaaDoorT
