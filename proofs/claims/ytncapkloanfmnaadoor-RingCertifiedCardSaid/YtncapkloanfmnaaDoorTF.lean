/- The same functions with fuel, for what they answer at fixed inputs. -/
import Derived.Test.YtncapkloanfmnaaDoorTD
import Derived.Test.YtncapkloanfmnaaDoorP
namespace Go.Proofs.YtncapkloanfmnaaDoorT
open Go Go.Proofs Go.Proofs.YtncapkloanfmnaaDoorE
set_option linter.unusedVariables false
set_option linter.unusedSimpArgs false
set_option maxHeartbeats 0
set_option maxRecDepth 4096
namespace Fuel
def iterF {σ Ω : Type} (step : σ → Option (σ ⊕ Ω)) (s : σ) : Option Ω := iterN step 4096 s
theorem le_iterF {σ Ω : Type} {f g : σ → Option (σ ⊕ Ω)} {s : σ} (h : ∀ s, Le (f s) (g s)) : Le (iterF f s) (iter g s) := le_iter h
noncomputable def graph_Check_1 (a0 : Int) (a1 : Graph) : Option Bool :=
  bif decide (a0 ≥ 0) then some (decide (a0 < a1.N)) else (some false)
noncomputable def bits_OnesCount32 (a0 : Int) : Option Int :=
  must (0 ≤ (24 : Int) ∧ (24 : Int) < (far : Int)) (must (0 ≤ sShr .u32 a0 (24 : Int) ∧ sShr .u32 a0 (24 : Int) < ((⟨#[0, 1, 1, 2, 1, 2, 2, 3, 1, 2, 2, 3, 2, 3, 3, 4, 1, 2, 2, 3, 2, 3, 3, 4, 2, 3, 3, 4, 3, 4, 4, 5, 1, 2, 2, 3, 2, 3, 3, 4, 2, 3, 3, 4, 3, 4, 4, 5, 2, 3, 3, 4, 3, 4, 4, 5, 3, 4, 4, 5, 4, 5, 5, 6, 1, 2, 2, 3, 2, 3, 3, 4, 2, 3, 3, 4, 3, 4, 4, 5, 2, 3, 3, 4, 3, 4, 4, 5, 3, 4, 4, 5, 4, 5, 5, 6, 2, 3, 3, 4, 3, 4, 4, 5, 3, 4, 4, 5, 4, 5, 5, 6, 3, 4, 4, 5, 4, 5, 5, 6, 4, 5, 5, 6, 5, 6, 6, 7, 1, 2, 2, 3, 2, 3, 3, 4, 2, 3, 3, 4, 3, 4, 4, 5, 2, 3, 3, 4, 3, 4, 4, 5, 3, 4, 4, 5, 4, 5, 5, 6, 2, 3, 3, 4, 3, 4, 4, 5, 3, 4, 4, 5, 4, 5, 5, 6, 3, 4, 4, 5, 4, 5, 5, 6, 4, 5, 5, 6, 5, 6, 6, 7, 2, 3, 3, 4, 3, 4, 4, 5, 3, 4, 4, 5, 4, 5, 5, 6, 3, 4, 4, 5, 4, 5, 5, 6, 4, 5, 5, 6, 5, 6, 6, 7, 3, 4, 4, 5, 4, 5, 5, 6, 4, 5, 5, 6, 5, 6, 6, 7, 4, 5, 5, 6, 5, 6, 6, 7, 5, 6, 6, 7, 6, 7, 7, 8]⟩ : ByteArray).size : Int)) (must (0 ≤ (16 : Int) ∧ (16 : Int) < (far : Int)) (must (0 ≤ bAnd .u32 (sShr .u32 a0 (16 : Int)) 255 ∧ bAnd .u32 (sShr .u32 a0 (16 : Int)) 255 < ((⟨#[0, 1, 1, 2, 1, 2, 2, 3, 1, 2, 2, 3, 2, 3, 3, 4, 1, 2, 2, 3, 2, 3, 3, 4, 2, 3, 3, 4, 3, 4, 4, 5, 1, 2, 2, 3, 2, 3, 3, 4, 2, 3, 3, 4, 3, 4, 4, 5, 2, 3, 3, 4, 3, 4, 4, 5, 3, 4, 4, 5, 4, 5, 5, 6, 1, 2, 2, 3, 2, 3, 3, 4, 2, 3, 3, 4, 3, 4, 4, 5, 2, 3, 3, 4, 3, 4, 4, 5, 3, 4, 4, 5, 4, 5, 5, 6, 2, 3, 3, 4, 3, 4, 4, 5, 3, 4, 4, 5, 4, 5, 5, 6, 3, 4, 4, 5, 4, 5, 5, 6, 4, 5, 5, 6, 5, 6, 6, 7, 1, 2, 2, 3, 2, 3, 3, 4, 2, 3, 3, 4, 3, 4, 4, 5, 2, 3, 3, 4, 3, 4, 4, 5, 3, 4, 4, 5, 4, 5, 5, 6, 2, 3, 3, 4, 3, 4, 4, 5, 3, 4, 4, 5, 4, 5, 5, 6, 3, 4, 4, 5, 4, 5, 5, 6, 4, 5, 5, 6, 5, 6, 6, 7, 2, 3, 3, 4, 3, 4, 4, 5, 3, 4, 4, 5, 4, 5, 5, 6, 3, 4, 4, 5, 4, 5, 5, 6, 4, 5, 5, 6, 5, 6, 6, 7, 3, 4, 4, 5, 4, 5, 5, 6, 4, 5, 5, 6, 5, 6, 6, 7, 4, 5, 5, 6, 5, 6, 6, 7, 5, 6, 6, 7, 6, 7, 7, 8]⟩ : ByteArray).size : Int)) (must (0 ≤ (8 : Int) ∧ (8 : Int) < (far : Int)) (must (0 ≤ bAnd .u32 (sShr .u32 a0 (8 : Int)) 255 ∧ bAnd .u32 (sShr .u32 a0 (8 : Int)) 255 < ((⟨#[0, 1, 1, 2, 1, 2, 2, 3, 1, 2, 2, 3, 2, 3, 3, 4, 1, 2, 2, 3, 2, 3, 3, 4, 2, 3, 3, 4, 3, 4, 4, 5, 1, 2, 2, 3, 2, 3, 3, 4, 2, 3, 3, 4, 3, 4, 4, 5, 2, 3, 3, 4, 3, 4, 4, 5, 3, 4, 4, 5, 4, 5, 5, 6, 1, 2, 2, 3, 2, 3, 3, 4, 2, 3, 3, 4, 3, 4, 4, 5, 2, 3, 3, 4, 3, 4, 4, 5, 3, 4, 4, 5, 4, 5, 5, 6, 2, 3, 3, 4, 3, 4, 4, 5, 3, 4, 4, 5, 4, 5, 5, 6, 3, 4, 4, 5, 4, 5, 5, 6, 4, 5, 5, 6, 5, 6, 6, 7, 1, 2, 2, 3, 2, 3, 3, 4, 2, 3, 3, 4, 3, 4, 4, 5, 2, 3, 3, 4, 3, 4, 4, 5, 3, 4, 4, 5, 4, 5, 5, 6, 2, 3, 3, 4, 3, 4, 4, 5, 3, 4, 4, 5, 4, 5, 5, 6, 3, 4, 4, 5, 4, 5, 5, 6, 4, 5, 5, 6, 5, 6, 6, 7, 2, 3, 3, 4, 3, 4, 4, 5, 3, 4, 4, 5, 4, 5, 5, 6, 3, 4, 4, 5, 4, 5, 5, 6, 4, 5, 5, 6, 5, 6, 6, 7, 3, 4, 4, 5, 4, 5, 5, 6, 4, 5, 5, 6, 5, 6, 6, 7, 4, 5, 5, 6, 5, 6, 6, 7, 5, 6, 6, 7, 6, 7, 7, 8]⟩ : ByteArray).size : Int)) (must (0 ≤ bAnd .u32 a0 255 ∧ bAnd .u32 a0 255 < ((⟨#[0, 1, 1, 2, 1, 2, 2, 3, 1, 2, 2, 3, 2, 3, 3, 4, 1, 2, 2, 3, 2, 3, 3, 4, 2, 3, 3, 4, 3, 4, 4, 5, 1, 2, 2, 3, 2, 3, 3, 4, 2, 3, 3, 4, 3, 4, 4, 5, 2, 3, 3, 4, 3, 4, 4, 5, 3, 4, 4, 5, 4, 5, 5, 6, 1, 2, 2, 3, 2, 3, 3, 4, 2, 3, 3, 4, 3, 4, 4, 5, 2, 3, 3, 4, 3, 4, 4, 5, 3, 4, 4, 5, 4, 5, 5, 6, 2, 3, 3, 4, 3, 4, 4, 5, 3, 4, 4, 5, 4, 5, 5, 6, 3, 4, 4, 5, 4, 5, 5, 6, 4, 5, 5, 6, 5, 6, 6, 7, 1, 2, 2, 3, 2, 3, 3, 4, 2, 3, 3, 4, 3, 4, 4, 5, 2, 3, 3, 4, 3, 4, 4, 5, 3, 4, 4, 5, 4, 5, 5, 6, 2, 3, 3, 4, 3, 4, 4, 5, 3, 4, 4, 5, 4, 5, 5, 6, 3, 4, 4, 5, 4, 5, 5, 6, 4, 5, 5, 6, 5, 6, 6, 7, 2, 3, 3, 4, 3, 4, 4, 5, 3, 4, 4, 5, 4, 5, 5, 6, 3, 4, 4, 5, 4, 5, 5, 6, 4, 5, 5, 6, 5, 6, 6, 7, 3, 4, 4, 5, 4, 5, 5, 6, 4, 5, 5, 6, 5, 6, 6, 7, 4, 5, 5, 6, 5, 6, 6, 7, 5, 6, 6, 7, 6, 7, 7, 8]⟩ : ByteArray).size : Int)) (some (w64 (IntKind.wrap .u8 ((IntKind.wrap .u8 ((IntKind.wrap .u8 ((bt (⟨#[0, 1, 1, 2, 1, 2, 2, 3, 1, 2, 2, 3, 2, 3, 3, 4, 1, 2, 2, 3, 2, 3, 3, 4, 2, 3, 3, 4, 3, 4, 4, 5, 1, 2, 2, 3, 2, 3, 3, 4, 2, 3, 3, 4, 3, 4, 4, 5, 2, 3, 3, 4, 3, 4, 4, 5, 3, 4, 4, 5, 4, 5, 5, 6, 1, 2, 2, 3, 2, 3, 3, 4, 2, 3, 3, 4, 3, 4, 4, 5, 2, 3, 3, 4, 3, 4, 4, 5, 3, 4, 4, 5, 4, 5, 5, 6, 2, 3, 3, 4, 3, 4, 4, 5, 3, 4, 4, 5, 4, 5, 5, 6, 3, 4, 4, 5, 4, 5, 5, 6, 4, 5, 5, 6, 5, 6, 6, 7, 1, 2, 2, 3, 2, 3, 3, 4, 2, 3, 3, 4, 3, 4, 4, 5, 2, 3, 3, 4, 3, 4, 4, 5, 3, 4, 4, 5, 4, 5, 5, 6, 2, 3, 3, 4, 3, 4, 4, 5, 3, 4, 4, 5, 4, 5, 5, 6, 3, 4, 4, 5, 4, 5, 5, 6, 4, 5, 5, 6, 5, 6, 6, 7, 2, 3, 3, 4, 3, 4, 4, 5, 3, 4, 4, 5, 4, 5, 5, 6, 3, 4, 4, 5, 4, 5, 5, 6, 4, 5, 5, 6, 5, 6, 6, 7, 3, 4, 4, 5, 4, 5, 5, 6, 4, 5, 5, 6, 5, 6, 6, 7, 4, 5, 5, 6, 5, 6, 6, 7, 5, 6, 6, 7, 6, 7, 7, 8]⟩ : ByteArray) (sShr .u32 a0 (24 : Int))) + (bt (⟨#[0, 1, 1, 2, 1, 2, 2, 3, 1, 2, 2, 3, 2, 3, 3, 4, 1, 2, 2, 3, 2, 3, 3, 4, 2, 3, 3, 4, 3, 4, 4, 5, 1, 2, 2, 3, 2, 3, 3, 4, 2, 3, 3, 4, 3, 4, 4, 5, 2, 3, 3, 4, 3, 4, 4, 5, 3, 4, 4, 5, 4, 5, 5, 6, 1, 2, 2, 3, 2, 3, 3, 4, 2, 3, 3, 4, 3, 4, 4, 5, 2, 3, 3, 4, 3, 4, 4, 5, 3, 4, 4, 5, 4, 5, 5, 6, 2, 3, 3, 4, 3, 4, 4, 5, 3, 4, 4, 5, 4, 5, 5, 6, 3, 4, 4, 5, 4, 5, 5, 6, 4, 5, 5, 6, 5, 6, 6, 7, 1, 2, 2, 3, 2, 3, 3, 4, 2, 3, 3, 4, 3, 4, 4, 5, 2, 3, 3, 4, 3, 4, 4, 5, 3, 4, 4, 5, 4, 5, 5, 6, 2, 3, 3, 4, 3, 4, 4, 5, 3, 4, 4, 5, 4, 5, 5, 6, 3, 4, 4, 5, 4, 5, 5, 6, 4, 5, 5, 6, 5, 6, 6, 7, 2, 3, 3, 4, 3, 4, 4, 5, 3, 4, 4, 5, 4, 5, 5, 6, 3, 4, 4, 5, 4, 5, 5, 6, 4, 5, 5, 6, 5, 6, 6, 7, 3, 4, 4, 5, 4, 5, 5, 6, 4, 5, 5, 6, 5, 6, 6, 7, 4, 5, 5, 6, 5, 6, 6, 7, 5, 6, 6, 7, 6, 7, 7, 8]⟩ : ByteArray) (bAnd .u32 (sShr .u32 a0 (16 : Int)) 255)))) + (bt (⟨#[0, 1, 1, 2, 1, 2, 2, 3, 1, 2, 2, 3, 2, 3, 3, 4, 1, 2, 2, 3, 2, 3, 3, 4, 2, 3, 3, 4, 3, 4, 4, 5, 1, 2, 2, 3, 2, 3, 3, 4, 2, 3, 3, 4, 3, 4, 4, 5, 2, 3, 3, 4, 3, 4, 4, 5, 3, 4, 4, 5, 4, 5, 5, 6, 1, 2, 2, 3, 2, 3, 3, 4, 2, 3, 3, 4, 3, 4, 4, 5, 2, 3, 3, 4, 3, 4, 4, 5, 3, 4, 4, 5, 4, 5, 5, 6, 2, 3, 3, 4, 3, 4, 4, 5, 3, 4, 4, 5, 4, 5, 5, 6, 3, 4, 4, 5, 4, 5, 5, 6, 4, 5, 5, 6, 5, 6, 6, 7, 1, 2, 2, 3, 2, 3, 3, 4, 2, 3, 3, 4, 3, 4, 4, 5, 2, 3, 3, 4, 3, 4, 4, 5, 3, 4, 4, 5, 4, 5, 5, 6, 2, 3, 3, 4, 3, 4, 4, 5, 3, 4, 4, 5, 4, 5, 5, 6, 3, 4, 4, 5, 4, 5, 5, 6, 4, 5, 5, 6, 5, 6, 6, 7, 2, 3, 3, 4, 3, 4, 4, 5, 3, 4, 4, 5, 4, 5, 5, 6, 3, 4, 4, 5, 4, 5, 5, 6, 4, 5, 5, 6, 5, 6, 6, 7, 3, 4, 4, 5, 4, 5, 5, 6, 4, 5, 5, 6, 5, 6, 6, 7, 4, 5, 5, 6, 5, 6, 6, 7, 5, 6, 6, 7, 6, 7, 7, 8]⟩ : ByteArray) (bAnd .u32 (sShr .u32 a0 (8 : Int)) 255)))) + (bt (⟨#[0, 1, 1, 2, 1, 2, 2, 3, 1, 2, 2, 3, 2, 3, 3, 4, 1, 2, 2, 3, 2, 3, 3, 4, 2, 3, 3, 4, 3, 4, 4, 5, 1, 2, 2, 3, 2, 3, 3, 4, 2, 3, 3, 4, 3, 4, 4, 5, 2, 3, 3, 4, 3, 4, 4, 5, 3, 4, 4, 5, 4, 5, 5, 6, 1, 2, 2, 3, 2, 3, 3, 4, 2, 3, 3, 4, 3, 4, 4, 5, 2, 3, 3, 4, 3, 4, 4, 5, 3, 4, 4, 5, 4, 5, 5, 6, 2, 3, 3, 4, 3, 4, 4, 5, 3, 4, 4, 5, 4, 5, 5, 6, 3, 4, 4, 5, 4, 5, 5, 6, 4, 5, 5, 6, 5, 6, 6, 7, 1, 2, 2, 3, 2, 3, 3, 4, 2, 3, 3, 4, 3, 4, 4, 5, 2, 3, 3, 4, 3, 4, 4, 5, 3, 4, 4, 5, 4, 5, 5, 6, 2, 3, 3, 4, 3, 4, 4, 5, 3, 4, 4, 5, 4, 5, 5, 6, 3, 4, 4, 5, 4, 5, 5, 6, 4, 5, 5, 6, 5, 6, 6, 7, 2, 3, 3, 4, 3, 4, 4, 5, 3, 4, 4, 5, 4, 5, 5, 6, 3, 4, 4, 5, 4, 5, 5, 6, 4, 5, 5, 6, 5, 6, 6, 7, 3, 4, 4, 5, 4, 5, 5, 6, 4, 5, 5, 6, 5, 6, 6, 7, 4, 5, 5, 6, 5, 6, 6, 7, 5, 6, 6, 7, 6, 7, 7, 8]⟩ : ByteArray) (bAnd .u32 a0 255))))))))))))
noncomputable def bits_OnesCount64 (a0 : Int) : Option Int :=
  must (0 ≤ (1 : Int) ∧ (1 : Int) < (far : Int)) (must (0 ≤ (2 : Int) ∧ (2 : Int) < (far : Int)) (must (0 ≤ (4 : Int) ∧ (4 : Int) < (far : Int)) (must (0 ≤ (8 : Int) ∧ (8 : Int) < (far : Int)) (must (0 ≤ (16 : Int) ∧ (16 : Int) < (far : Int)) (must (0 ≤ (32 : Int) ∧ (32 : Int) < (far : Int)) (some (bAnd .i64 (w64 (IntKind.wrap .u64 ((IntKind.wrap .u64 ((IntKind.wrap .u64 ((bAnd .u64 (IntKind.wrap .u64 ((sShr .u64 (IntKind.wrap .u64 ((bAnd .u64 (sShr .u64 (IntKind.wrap .u64 ((bAnd .u64 (sShr .u64 a0 (1 : Int)) 6148914691236517205) + (bAnd .u64 a0 6148914691236517205))) (2 : Int)) 3689348814741910323) + (bAnd .u64 (IntKind.wrap .u64 ((bAnd .u64 (sShr .u64 a0 (1 : Int)) 6148914691236517205) + (bAnd .u64 a0 6148914691236517205))) 3689348814741910323))) (4 : Int)) + (IntKind.wrap .u64 ((bAnd .u64 (sShr .u64 (IntKind.wrap .u64 ((bAnd .u64 (sShr .u64 a0 (1 : Int)) 6148914691236517205) + (bAnd .u64 a0 6148914691236517205))) (2 : Int)) 3689348814741910323) + (bAnd .u64 (IntKind.wrap .u64 ((bAnd .u64 (sShr .u64 a0 (1 : Int)) 6148914691236517205) + (bAnd .u64 a0 6148914691236517205))) 3689348814741910323))))) 1085102592571150095) + (sShr .u64 (bAnd .u64 (IntKind.wrap .u64 ((sShr .u64 (IntKind.wrap .u64 ((bAnd .u64 (sShr .u64 (IntKind.wrap .u64 ((bAnd .u64 (sShr .u64 a0 (1 : Int)) 6148914691236517205) + (bAnd .u64 a0 6148914691236517205))) (2 : Int)) 3689348814741910323) + (bAnd .u64 (IntKind.wrap .u64 ((bAnd .u64 (sShr .u64 a0 (1 : Int)) 6148914691236517205) + (bAnd .u64 a0 6148914691236517205))) 3689348814741910323))) (4 : Int)) + (IntKind.wrap .u64 ((bAnd .u64 (sShr .u64 (IntKind.wrap .u64 ((bAnd .u64 (sShr .u64 a0 (1 : Int)) 6148914691236517205) + (bAnd .u64 a0 6148914691236517205))) (2 : Int)) 3689348814741910323) + (bAnd .u64 (IntKind.wrap .u64 ((bAnd .u64 (sShr .u64 a0 (1 : Int)) 6148914691236517205) + (bAnd .u64 a0 6148914691236517205))) 3689348814741910323))))) 1085102592571150095) (8 : Int)))) + (sShr .u64 (IntKind.wrap .u64 ((bAnd .u64 (IntKind.wrap .u64 ((sShr .u64 (IntKind.wrap .u64 ((bAnd .u64 (sShr .u64 (IntKind.wrap .u64 ((bAnd .u64 (sShr .u64 a0 (1 : Int)) 6148914691236517205) + (bAnd .u64 a0 6148914691236517205))) (2 : Int)) 3689348814741910323) + (bAnd .u64 (IntKind.wrap .u64 ((bAnd .u64 (sShr .u64 a0 (1 : Int)) 6148914691236517205) + (bAnd .u64 a0 6148914691236517205))) 3689348814741910323))) (4 : Int)) + (IntKind.wrap .u64 ((bAnd .u64 (sShr .u64 (IntKind.wrap .u64 ((bAnd .u64 (sShr .u64 a0 (1 : Int)) 6148914691236517205) + (bAnd .u64 a0 6148914691236517205))) (2 : Int)) 3689348814741910323) + (bAnd .u64 (IntKind.wrap .u64 ((bAnd .u64 (sShr .u64 a0 (1 : Int)) 6148914691236517205) + (bAnd .u64 a0 6148914691236517205))) 3689348814741910323))))) 1085102592571150095) + (sShr .u64 (bAnd .u64 (IntKind.wrap .u64 ((sShr .u64 (IntKind.wrap .u64 ((bAnd .u64 (sShr .u64 (IntKind.wrap .u64 ((bAnd .u64 (sShr .u64 a0 (1 : Int)) 6148914691236517205) + (bAnd .u64 a0 6148914691236517205))) (2 : Int)) 3689348814741910323) + (bAnd .u64 (IntKind.wrap .u64 ((bAnd .u64 (sShr .u64 a0 (1 : Int)) 6148914691236517205) + (bAnd .u64 a0 6148914691236517205))) 3689348814741910323))) (4 : Int)) + (IntKind.wrap .u64 ((bAnd .u64 (sShr .u64 (IntKind.wrap .u64 ((bAnd .u64 (sShr .u64 a0 (1 : Int)) 6148914691236517205) + (bAnd .u64 a0 6148914691236517205))) (2 : Int)) 3689348814741910323) + (bAnd .u64 (IntKind.wrap .u64 ((bAnd .u64 (sShr .u64 a0 (1 : Int)) 6148914691236517205) + (bAnd .u64 a0 6148914691236517205))) 3689348814741910323))))) 1085102592571150095) (8 : Int)))) (16 : Int)))) + (sShr .u64 (IntKind.wrap .u64 ((IntKind.wrap .u64 ((bAnd .u64 (IntKind.wrap .u64 ((sShr .u64 (IntKind.wrap .u64 ((bAnd .u64 (sShr .u64 (IntKind.wrap .u64 ((bAnd .u64 (sShr .u64 a0 (1 : Int)) 6148914691236517205) + (bAnd .u64 a0 6148914691236517205))) (2 : Int)) 3689348814741910323) + (bAnd .u64 (IntKind.wrap .u64 ((bAnd .u64 (sShr .u64 a0 (1 : Int)) 6148914691236517205) + (bAnd .u64 a0 6148914691236517205))) 3689348814741910323))) (4 : Int)) + (IntKind.wrap .u64 ((bAnd .u64 (sShr .u64 (IntKind.wrap .u64 ((bAnd .u64 (sShr .u64 a0 (1 : Int)) 6148914691236517205) + (bAnd .u64 a0 6148914691236517205))) (2 : Int)) 3689348814741910323) + (bAnd .u64 (IntKind.wrap .u64 ((bAnd .u64 (sShr .u64 a0 (1 : Int)) 6148914691236517205) + (bAnd .u64 a0 6148914691236517205))) 3689348814741910323))))) 1085102592571150095) + (sShr .u64 (bAnd .u64 (IntKind.wrap .u64 ((sShr .u64 (IntKind.wrap .u64 ((bAnd .u64 (sShr .u64 (IntKind.wrap .u64 ((bAnd .u64 (sShr .u64 a0 (1 : Int)) 6148914691236517205) + (bAnd .u64 a0 6148914691236517205))) (2 : Int)) 3689348814741910323) + (bAnd .u64 (IntKind.wrap .u64 ((bAnd .u64 (sShr .u64 a0 (1 : Int)) 6148914691236517205) + (bAnd .u64 a0 6148914691236517205))) 3689348814741910323))) (4 : Int)) + (IntKind.wrap .u64 ((bAnd .u64 (sShr .u64 (IntKind.wrap .u64 ((bAnd .u64 (sShr .u64 a0 (1 : Int)) 6148914691236517205) + (bAnd .u64 a0 6148914691236517205))) (2 : Int)) 3689348814741910323) + (bAnd .u64 (IntKind.wrap .u64 ((bAnd .u64 (sShr .u64 a0 (1 : Int)) 6148914691236517205) + (bAnd .u64 a0 6148914691236517205))) 3689348814741910323))))) 1085102592571150095) (8 : Int)))) + (sShr .u64 (IntKind.wrap .u64 ((bAnd .u64 (IntKind.wrap .u64 ((sShr .u64 (IntKind.wrap .u64 ((bAnd .u64 (sShr .u64 (IntKind.wrap .u64 ((bAnd .u64 (sShr .u64 a0 (1 : Int)) 6148914691236517205) + (bAnd .u64 a0 6148914691236517205))) (2 : Int)) 3689348814741910323) + (bAnd .u64 (IntKind.wrap .u64 ((bAnd .u64 (sShr .u64 a0 (1 : Int)) 6148914691236517205) + (bAnd .u64 a0 6148914691236517205))) 3689348814741910323))) (4 : Int)) + (IntKind.wrap .u64 ((bAnd .u64 (sShr .u64 (IntKind.wrap .u64 ((bAnd .u64 (sShr .u64 a0 (1 : Int)) 6148914691236517205) + (bAnd .u64 a0 6148914691236517205))) (2 : Int)) 3689348814741910323) + (bAnd .u64 (IntKind.wrap .u64 ((bAnd .u64 (sShr .u64 a0 (1 : Int)) 6148914691236517205) + (bAnd .u64 a0 6148914691236517205))) 3689348814741910323))))) 1085102592571150095) + (sShr .u64 (bAnd .u64 (IntKind.wrap .u64 ((sShr .u64 (IntKind.wrap .u64 ((bAnd .u64 (sShr .u64 (IntKind.wrap .u64 ((bAnd .u64 (sShr .u64 a0 (1 : Int)) 6148914691236517205) + (bAnd .u64 a0 6148914691236517205))) (2 : Int)) 3689348814741910323) + (bAnd .u64 (IntKind.wrap .u64 ((bAnd .u64 (sShr .u64 a0 (1 : Int)) 6148914691236517205) + (bAnd .u64 a0 6148914691236517205))) 3689348814741910323))) (4 : Int)) + (IntKind.wrap .u64 ((bAnd .u64 (sShr .u64 (IntKind.wrap .u64 ((bAnd .u64 (sShr .u64 a0 (1 : Int)) 6148914691236517205) + (bAnd .u64 a0 6148914691236517205))) (2 : Int)) 3689348814741910323) + (bAnd .u64 (IntKind.wrap .u64 ((bAnd .u64 (sShr .u64 a0 (1 : Int)) 6148914691236517205) + (bAnd .u64 a0 6148914691236517205))) 3689348814741910323))))) 1085102592571150095) (8 : Int)))) (16 : Int)))) (32 : Int))))) 127)))))))
noncomputable def bits_OnesCount (a0 : Int) : Option Int :=
  (bits_OnesCount64 a0).bind fun y3 => some y3
noncomputable def graph_Check.j3 (x165 : Int) (b218 : Bool) : Option (Int ⊕ Int) :=
  bif b218 then out (some 60) else (some (.inl (w64 (x165 + 1))))
noncomputable def graph_Check.s2 (a0 : Graph) : Int → Option (Int ⊕ Int)
  | x165 => bif decide (x165 < (a0.Edges.length : Int)) then must (0 ≤ x165 ∧ x165 < (a0.Edges.length : Int)) ((graph_Check_1 ((idx a0.Edges x165).From) a0).bind fun y221 => bif !y221 then graph_Check.j3 x165 true else ((graph_Check_1 ((idx a0.Edges x165).To) a0).bind fun y224 => bif !y224 then graph_Check.j3 x165 true else (bif decide ((idx a0.Edges x165).Kind < 1) then graph_Check.j3 x165 true else (bif decide ((idx a0.Edges x165).Kind > 16) then graph_Check.j3 x165 true else ((bits_OnesCount (IntKind.wrap .u64 ((idx a0.Edges x165).Kind))).bind fun y229 => graph_Check.j3 x165 (y229 != 1)))))) else (out (some 0))
noncomputable def graph_Check.j1 (a0 : Graph) (b9 : Bool) : Option Int :=
  bif b9 then some 60 else (iterF (graph_Check.s2 a0) 0)
noncomputable def graph_Check (a0 : Graph) : Option Int :=
  bif decide (a0.N < 0) then graph_Check.j1 a0 true else (bif decide (a0.N > 64) then graph_Check.j1 a0 true else (graph_Check.j1 a0 (decide ((a0.Edges.length : Int) > 262144))))
noncomputable def ring_Fits.j5 (a1 : List Edge) (m354 : List (Int × Unit)) (x355 : Int) : Option (((List (Int × Unit)) × Int) ⊕ (((List (Edge × Unit)) × Int) ⊕ Bool)) :=
  some (.inl (mput m354 ((idx a1 x355).From) (), w64 (x355 + 1)))
noncomputable def ring_Fits.j6 (a1 : List Edge) (m354 : List (Int × Unit)) (x355 : Int) (b454 : Bool) : Option (((List (Int × Unit)) × Int) ⊕ (((List (Edge × Unit)) × Int) ⊕ Bool)) :=
  bif b454 then out (out (some false)) else (ring_Fits.j5 a1 m354 x355)
noncomputable def ring_Fits.j7 (a1 : List Edge) (m354 : List (Int × Unit)) (x355 : Int) (b464 : Bool) : Option (((List (Int × Unit)) × Int) ⊕ (((List (Edge × Unit)) × Int) ⊕ Bool)) :=
  bif b464 then out (out (some false)) else (ring_Fits.j5 a1 m354 x355)
noncomputable def ring_Fits.j4 (a1 : List Edge) (a2 : Int) (a3 : Int) (a4 : Int) (m354 : List (Int × Unit)) (x355 : Int) (b429 : Bool) : Option (((List (Int × Unit)) × Int) ⊕ (((List (Edge × Unit)) × Int) ⊕ Bool)) :=
  bif b429 then out (out (some false)) else (bif (a4 == 1) then bif !(bAnd .i64 ((idx a1 x355).Kind) a2 != 0) then out (out (some false)) else (ring_Fits.j5 a1 m354 x355) else (bif (a4 == 2) then bif (x355 == 0) then bif !(bAnd .i64 ((idx a1 x355).Kind) a3 != 0) then ring_Fits.j6 a1 m354 x355 true else (bif decide (x355 > 0) then ring_Fits.j6 a1 m354 x355 (!(bAnd .i64 ((idx a1 x355).Kind) a2 != 0)) else (ring_Fits.j6 a1 m354 x355 false)) else (bif decide (x355 > 0) then ring_Fits.j6 a1 m354 x355 (!(bAnd .i64 ((idx a1 x355).Kind) a2 != 0)) else (ring_Fits.j6 a1 m354 x355 false)) else (bif (a4 == 3) then bif !(bAnd .i64 ((idx a1 x355).Kind) a2 != 0) then bif !(bAnd .i64 ((idx a1 x355).Kind) a3 != 0) then ring_Fits.j7 a1 m354 x355 true else (ring_Fits.j7 a1 m354 x355 (bAnd .i64 ((idx a1 ((w64 (x355 + 1)).tmod (a1.length : Int))).Kind) a2 == 0)) else (ring_Fits.j7 a1 m354 x355 false) else (out (out (some false))))))
noncomputable def ring_Fits.s3 (a1 : List Edge) (a2 : Int) (a3 : Int) (a4 : Int) (m90 : List (Edge × Unit)) : ((List (Int × Unit)) × Int) → Option (((List (Int × Unit)) × Int) ⊕ (((List (Edge × Unit)) × Int) ⊕ Bool))
  | (m354, x355) => bif decide (x355 < (a1.length : Int)) then must (0 ≤ x355 ∧ x355 < (a1.length : Int)) (must ((a1.length : Int) ≠ 0) (must (0 ≤ (w64 (x355 + 1)).tmod (a1.length : Int) ∧ (w64 (x355 + 1)).tmod (a1.length : Int) < (a1.length : Int)) (bif !(mhas m90 (idx a1 x355)) then ring_Fits.j4 a1 a2 a3 a4 m354 x355 true else (ring_Fits.j4 a1 a2 a3 a4 m354 x355 ((idx a1 x355).To != (idx a1 ((w64 (x355 + 1)).tmod (a1.length : Int))).From))))) else (out (out (some ((m354.length : Int) == (a1.length : Int)))))
noncomputable def ring_Fits.s2 (a0 : Graph) (a1 : List Edge) (a2 : Int) (a3 : Int) (a4 : Int) : ((List (Edge × Unit)) × Int) → Option (((List (Edge × Unit)) × Int) ⊕ Bool)
  | (m90, x91) => bif decide (x91 < (a0.Edges.length : Int)) then must (0 ≤ x91 ∧ x91 < (a0.Edges.length : Int)) (some (.inl (mput m90 (idx a0.Edges x91) (), w64 (x91 + 1)))) else (iterF (ring_Fits.s3 a1 a2 a3 a4 m90) ([], 0))
noncomputable def ring_Fits.j1 (a0 : Graph) (a1 : List Edge) (a2 : Int) (a3 : Int) (a4 : Int) (b11 : Bool) : Option Bool :=
  bif b11 then some false else (iterF (ring_Fits.s2 a0 a1 a2 a3 a4) ([], 0))
noncomputable def ring_Fits (a0 : Graph) (a1 : List Edge) (a2 : Int) (a3 : Int) (a4 : Int) : Option Bool :=
  (graph_Check a0).bind fun y470 => bif (y470 != 0) then ring_Fits.j1 a0 a1 a2 a3 a4 true else (ring_Fits.j1 a0 a1 a2 a3 a4 ((a1.length : Int) == 0))
noncomputable def ring_newNet.s2 (a0 : Graph) (a1 : Int) (a2 : Int) : ((List (List RingLink)) × Int) → Option (((List (List RingLink)) × Int) ⊕ (((List (List RingLink)) × Int) ⊕ RingNet))
  | (l477, x480) => bif decide (x480 < (a0.Edges.length : Int)) then must (0 ≤ x480 ∧ x480 < (a0.Edges.length : Int)) (must (0 ≤ (idx a0.Edges x480).From ∧ (idx a0.Edges x480).From < (l477.length : Int)) (must (0 ≤ (idx a0.Edges x480).To ∧ (idx a0.Edges x480).To < ((idx l477 ((idx a0.Edges x480).From)).length : Int)) (bif (bAnd .i64 ((idx a0.Edges x480).Kind) a1 != 0) then bif ((idx (idx l477 ((idx a0.Edges x480).From)) ((idx a0.Edges x480).To)).tight == 0) then bif (bAnd .i64 ((idx a0.Edges x480).Kind) a2 != 0) then bif ((idx ((idx l477 ((idx a0.Edges x480).From)).set ((idx a0.Edges x480).To).toNat (⟨w64 (x480 + 1), (idx (idx l477 ((idx a0.Edges x480).From)) ((idx a0.Edges x480).To)).loose⟩ : RingLink)) ((idx a0.Edges x480).To)).loose == 0) then some (.inl (l477.set ((idx a0.Edges x480).From).toNat (((idx l477 ((idx a0.Edges x480).From)).set ((idx a0.Edges x480).To).toNat (⟨w64 (x480 + 1), (idx (idx l477 ((idx a0.Edges x480).From)) ((idx a0.Edges x480).To)).loose⟩ : RingLink)).set ((idx a0.Edges x480).To).toNat (⟨(idx ((idx l477 ((idx a0.Edges x480).From)).set ((idx a0.Edges x480).To).toNat (⟨w64 (x480 + 1), (idx (idx l477 ((idx a0.Edges x480).From)) ((idx a0.Edges x480).To)).loose⟩ : RingLink)) ((idx a0.Edges x480).To)).tight, w64 (x480 + 1)⟩ : RingLink)), w64 (x480 + 1))) else (some (.inl (l477.set ((idx a0.Edges x480).From).toNat ((idx l477 ((idx a0.Edges x480).From)).set ((idx a0.Edges x480).To).toNat (⟨w64 (x480 + 1), (idx (idx l477 ((idx a0.Edges x480).From)) ((idx a0.Edges x480).To)).loose⟩ : RingLink)), w64 (x480 + 1)))) else (some (.inl (l477.set ((idx a0.Edges x480).From).toNat ((idx l477 ((idx a0.Edges x480).From)).set ((idx a0.Edges x480).To).toNat (⟨w64 (x480 + 1), (idx (idx l477 ((idx a0.Edges x480).From)) ((idx a0.Edges x480).To)).loose⟩ : RingLink)), w64 (x480 + 1)))) else (bif (bAnd .i64 ((idx a0.Edges x480).Kind) a2 != 0) then bif ((idx (idx l477 ((idx a0.Edges x480).From)) ((idx a0.Edges x480).To)).loose == 0) then some (.inl (l477.set ((idx a0.Edges x480).From).toNat ((idx l477 ((idx a0.Edges x480).From)).set ((idx a0.Edges x480).To).toNat (⟨(idx (idx l477 ((idx a0.Edges x480).From)) ((idx a0.Edges x480).To)).tight, w64 (x480 + 1)⟩ : RingLink)), w64 (x480 + 1))) else (some (.inl (l477.set ((idx a0.Edges x480).From).toNat (idx l477 ((idx a0.Edges x480).From)), w64 (x480 + 1)))) else (some (.inl (l477.set ((idx a0.Edges x480).From).toNat (idx l477 ((idx a0.Edges x480).From)), w64 (x480 + 1))))) else (bif (bAnd .i64 ((idx a0.Edges x480).Kind) a2 != 0) then bif ((idx (idx l477 ((idx a0.Edges x480).From)) ((idx a0.Edges x480).To)).loose == 0) then some (.inl (l477.set ((idx a0.Edges x480).From).toNat ((idx l477 ((idx a0.Edges x480).From)).set ((idx a0.Edges x480).To).toNat (⟨(idx (idx l477 ((idx a0.Edges x480).From)) ((idx a0.Edges x480).To)).tight, w64 (x480 + 1)⟩ : RingLink)), w64 (x480 + 1))) else (some (.inl (l477.set ((idx a0.Edges x480).From).toNat (idx l477 ((idx a0.Edges x480).From)), w64 (x480 + 1)))) else (some (.inl (l477.set ((idx a0.Edges x480).From).toNat (idx l477 ((idx a0.Edges x480).From)), w64 (x480 + 1)))))))) else (out (out (some (⟨a0, l477⟩ : RingNet))))
noncomputable def ring_newNet.s1 (a0 : Graph) (a1 : Int) (a2 : Int) : ((List (List RingLink)) × Int) → Option (((List (List RingLink)) × Int) ⊕ RingNet)
  | (l170, x173) => bif decide (x173 < (a0.N.toNat : Int)) then must (0 ≤ a0.N ∧ a0.N ≤ 9223372036854775807 ∧ (16 : Int) * a0.N ≤ 281474976710656) (must (0 ≤ x173 ∧ x173 < (l170.length : Int)) (some (.inl (l170.set x173.toNat (List.replicate a0.N.toNat (default : RingLink)), w64 (x173 + 1))))) else (iterF (ring_newNet.s2 a0 a1 a2) (l170, 0))
noncomputable def ring_newNet (a0 : Graph) (a1 : Int) (a2 : Int) : Option RingNet :=
  must (0 ≤ a0.N ∧ a0.N ≤ 9223372036854775807 ∧ (24 : Int) * a0.N ≤ 281474976710656) (iterF (ring_newNet.s1 a0 a1 a2) (List.replicate a0.N.toNat (default : List RingLink), 0))
noncomputable def ring_net_onward_1.j2 {σ : Type} (x138 : Int) (s185 : σ) : Option ((Int × σ) ⊕ σ) :=
  some (.inl (w64 (x138 + 1), s185))
noncomputable def ring_net_onward_1.j3 {σ : Type} (Y : σ → RingSpot → Option (Bool × σ)) (a2 : RingNet) (a3 : RingSpot) (x138 : Int) (s139 : σ) (b221 : Bool) : Option ((Int × σ) ⊕ σ) :=
  bif b221 then ring_net_onward_1.j2 x138 s139 else ((Y s139 (⟨x138, ((idx (idx a2.links a3.node) x138).tight == 0), a3.first_⟩ : RingSpot)).bind fun y226 => bif !y226.1 then out (some y226.2) else (ring_net_onward_1.j2 x138 y226.2))
noncomputable def ring_net_onward_1.s1 {σ : Type} (Y : σ → RingSpot → Option (Bool × σ)) (a2 : RingNet) (a3 : RingSpot) : (Int × σ) → Option ((Int × σ) ⊕ σ)
  | (x138, s139) => bif decide (x138 < a2.g.N) then must (0 ≤ a3.node ∧ a3.node < (a2.links.length : Int)) (must (0 ≤ x138 ∧ x138 < ((idx a2.links a3.node).length : Int)) (bif ((idx (idx a2.links a3.node) x138).tight == 0) then bif ((idx (idx a2.links a3.node) x138).loose == 0) then ring_net_onward_1.j3 Y a2 a3 x138 s139 true else (ring_net_onward_1.j3 Y a2 a3 x138 s139 a3.last_) else (ring_net_onward_1.j3 Y a2 a3 x138 s139 false))) else (out (some s139))
noncomputable def ring_net_onward_1 {σ : Type} (Y : σ → RingSpot → Option (Bool × σ)) (a1 : Int) (a2 : RingNet) (a3 : RingSpot) (s0 : σ) : Option σ :=
  iterF (ring_net_onward_1.s1 Y a2 a3) (a1, s0)
noncomputable def ring_net_onward (a0 : RingNet) (a1 : RingSpot) (a2 : Int) : Option Unit :=
  some ()
noncomputable def ring_home (a0 : RingSpot) (a1 : Int) : Option Bool :=
  bif (a0.node == a1) then bif a0.last_ then some (!a0.first_) else (some true) else (some false)
noncomputable def ring_trail.s1 (a0 : List (RingSpot × RingSpot)) (a2 : Int) : (Int × Bool × Bool × List Int) → Option ((Int × Bool × Bool × List Int) ⊕ (List Int × Bool))
  | (x180, b181, b182, l183) => bif decide (x180 ≥ 0) then must (((1 + l183.length) + (1 + l183.length) / 4 + 192) * 8 ≤ 281474976710656 ∧ 1 + l183.length ≤ 9223372036854775807) (some (.inl ((mat a0 (⟨x180, b181, b182⟩ : RingSpot)).node, (mat a0 (⟨x180, b181, b182⟩ : RingSpot)).last_, (mat a0 (⟨x180, b181, b182⟩ : RingSpot)).first_, ([x180] : List Int) ++ l183))) else (must (((1 + l183.length) + (1 + l183.length) / 4 + 192) * 8 ≤ 281474976710656 ∧ 1 + l183.length ≤ 9223372036854775807) (out (some (([a2] : List Int) ++ l183, false))))
noncomputable def ring_trail (a0 : List (RingSpot × RingSpot)) (a1 : RingSpot) (a2 : Int) : Option (List Int × Bool) :=
  iterF (ring_trail.s1 a0 a2) (a1.node, a1.last_, a1.first_, ([] : List Int))
noncomputable def ring_net_round.j2 (m334 : List (RingSpot × RingSpot)) (l335 : List RingSpot) (b338 : Bool) : Option (Bool × (((List (RingSpot × RingSpot)) × List RingSpot × Bool) ⊕ Unit)) :=
  some (true, .inl (m334, l335, b338))
noncomputable def ring_net_round.y1 (a1 : Int) : (((List (RingSpot × RingSpot)) × List RingSpot × Bool) ⊕ Unit) → RingSpot → Option (Bool × (((List (RingSpot × RingSpot)) × List RingSpot × Bool) ⊕ Unit))
  | .inl (m311, l312, b315), a252 => (ring_home (⟨a252.node, a252.last_, a252.last_⟩ : RingSpot) a1).bind fun y348 => bif y348 then some (false, .inr ()) else (bif !(mhas m311 (⟨a252.node, a252.last_, a252.last_⟩ : RingSpot)) then must (((l312.length + 1) + (l312.length + 1) / 4 + 192) * 16 ≤ 281474976710656 ∧ l312.length + 1 ≤ 9223372036854775807) (ring_net_round.j2 (mput m311 (⟨a252.node, a252.last_, a252.last_⟩ : RingSpot) (⟨(-1), false, false⟩ : RingSpot)) (l312 ++ ([(⟨a252.node, a252.last_, a252.last_⟩ : RingSpot)] : List RingSpot)) false) else (ring_net_round.j2 m311 l312 b315))
  | .inr _, _ => none
noncomputable def ring_net_round.j7 (m6046 : List (RingSpot × RingSpot)) (l6047 : List RingSpot) (b6050 : Bool) : Option (Bool × (((List (RingSpot × RingSpot)) × List RingSpot × Bool) ⊕ (List Int × Bool))) :=
  some (true, .inl (m6046, l6047, b6050))
noncomputable def ring_net_round.y6 (a1 : Int) (l3696 : List RingSpot) (x5569 : Int) : (((List (RingSpot × RingSpot)) × List RingSpot × Bool) ⊕ (List Int × Bool)) → RingSpot → Option (Bool × (((List (RingSpot × RingSpot)) × List RingSpot × Bool) ⊕ (List Int × Bool)))
  | .inl (m6018, l6019, b6022), a5953 => (ring_home a5953 a1).bind fun y6063 => bif y6063 then (ring_trail m6018 (idx l3696 x5569) a1).bind fun y6071 => some (false, .inr (y6071.1, y6071.2)) else (bif !(mhas m6018 a5953) then must (((l6019.length + 1) + (l6019.length + 1) / 4 + 192) * 16 ≤ 281474976710656 ∧ l6019.length + 1 ≤ 9223372036854775807) (ring_net_round.j7 (mput m6018 a5953 (idx l3696 x5569)) (l6019 ++ ([a5953] : List RingSpot)) false) else (ring_net_round.j7 m6018 l6019 b6022))
  | .inr _, _ => none
noncomputable def ring_net_round.k6 (x5569 : Int) : (((List (RingSpot × RingSpot)) × List RingSpot × Bool) ⊕ (List Int × Bool)) → Option (((List (RingSpot × RingSpot)) × List RingSpot × Bool × Int) ⊕ (((List (RingSpot × RingSpot)) × List RingSpot × Bool × Int) ⊕ (List Int × Bool)))
  | .inl ((m6018, l6019, b6022)) => some (.inl (m6018, l6019, b6022, w64 (x5569 + 1)))
  | .inr ((l6024, b6027)) => out (out (some (l6024, b6027)))
noncomputable def ring_net_round.s5 (a0 : RingNet) (a1 : Int) (l3696 : List RingSpot) (x3701 : Int) : ((List (RingSpot × RingSpot)) × List RingSpot × Bool × Int) → Option (((List (RingSpot × RingSpot)) × List RingSpot × Bool × Int) ⊕ (((List (RingSpot × RingSpot)) × List RingSpot × Bool × Int) ⊕ (List Int × Bool)))
  | (m5563, l5564, b5567, x5569) => bif decide (x5569 < (l3696.length : Int)) then must (0 ≤ x5569 ∧ x5569 < (l3696.length : Int)) ((ring_net_onward a0 (idx l3696 x5569) a1).bind fun y5812 => (ring_net_onward_1 (ring_net_round.y6 a1 l3696 x5569) a1 a0 (idx l3696 x5569) (.inl (m5563, l5564, b5567))).bind fun o6085 => ring_net_round.k6 x5569 o6085) else (out (some (.inl (m5563, l5564, b5567, w64 (x3701 + 1)))))
noncomputable def ring_net_round.j4 (a0 : RingNet) (a1 : Int) (m3695 : List (RingSpot × RingSpot)) (l3696 : List RingSpot) (x3701 : Int) (b3708 : Bool) : Option (((List (RingSpot × RingSpot)) × List RingSpot × Bool × Int) ⊕ (List Int × Bool)) :=
  bif b3708 then iterF (ring_net_round.s5 a0 a1 l3696 x3701) (m3695, [], true, 0) else (out (some (([] : List Int), true)))
noncomputable def ring_net_round.s3 (a0 : RingNet) (a1 : Int) (a2 : Int) : ((List (RingSpot × RingSpot)) × List RingSpot × Bool × Int) → Option (((List (RingSpot × RingSpot)) × List RingSpot × Bool × Int) ⊕ (List Int × Bool))
  | (m3695, l3696, b3699, x3701) => bif decide (x3701 < a2) then ring_net_round.j4 a0 a1 m3695 l3696 x3701 (decide ((l3696.length : Int) > 0)) else (ring_net_round.j4 a0 a1 m3695 l3696 x3701 false)
noncomputable def ring_net_round.k1 (a0 : RingNet) (a1 : Int) (a2 : Int) : (((List (RingSpot × RingSpot)) × List RingSpot × Bool) ⊕ Unit) → Option (List Int × Bool)
  | .inl ((m311, l312, b315)) => iterF (ring_net_round.s3 a0 a1 a2) (m311, l312, b315, 2)
  | .inr _ => some (([a1] : List Int), false)
noncomputable def ring_net_round (a0 : RingNet) (a1 : Int) (a2 : Int) : Option (List Int × Bool) :=
  (ring_net_onward a0 (⟨a1, false, false⟩ : RingSpot) a1).bind fun y119 => (ring_net_onward_1 (ring_net_round.y1 a1) a1 a0 (⟨a1, false, false⟩ : RingSpot) (.inl ([], [], true))).bind fun o6088 => ring_net_round.k1 a0 a1 a2 o6088
noncomputable def ring_Spaced_1 (a0 : RingLink) (a1 : Int) : Option Int :=
  bif decide (a0.tight > 0) then some a0.tight else (some a0.loose)
noncomputable def ring_net_edges_ring_Spaced_1.s1 (a0 : RingNet) (a1 : List Int) : (List Edge × Int) → Option ((List Edge × Int) ⊕ (List Edge))
  | (l309, x312) => bif decide (x312 < (a1.length : Int)) then must (0 ≤ x312 ∧ x312 < (a1.length : Int)) (must (0 ≤ idx a1 x312 ∧ idx a1 x312 < (a0.links.length : Int)) (must ((a1.length : Int) ≠ 0) (must (0 ≤ (w64 (x312 + 1)).tmod (a1.length : Int) ∧ (w64 (x312 + 1)).tmod (a1.length : Int) < (a1.length : Int)) (must (0 ≤ idx a1 ((w64 (x312 + 1)).tmod (a1.length : Int)) ∧ idx a1 ((w64 (x312 + 1)).tmod (a1.length : Int)) < ((idx a0.links (idx a1 x312)).length : Int)) ((ring_Spaced_1 (idx (idx a0.links (idx a1 x312)) (idx a1 ((w64 (x312 + 1)).tmod (a1.length : Int)))) x312).bind fun y411 => must (0 ≤ w64 (y411 - 1) ∧ w64 (y411 - 1) < (a0.g.Edges.length : Int)) (must (((l309.length + 1) + (l309.length + 1) / 4 + 192) * 32 ≤ 281474976710656 ∧ l309.length + 1 ≤ 9223372036854775807) (some (.inl (l309 ++ ([(idx a0.g.Edges (w64 (y411 - 1)))] : List Edge), w64 (x312 + 1)))))))))) else (out (some l309))
noncomputable def ring_net_edges_ring_Spaced_1 (a0 : RingNet) (a1 : List Int) : Option (List Edge) :=
  iterF (ring_net_edges_ring_Spaced_1.s1 a0 a1) ([], 0)
noncomputable def ring_Spaced.j1 (y20 : RingNet) (l158 : List Int) : Option (List Edge × Int) :=
  (ring_net_edges_ring_Spaced_1 y20 l158).bind fun y166 => some (y166, 0)
noncomputable def ring_Spaced.j3 (x219 : Int) (l243 : List Int) : Option ((List Int × Int) ⊕ (List Edge × Int)) :=
  some (.inl (l243, w64 (x219 + 1)))
noncomputable def ring_Spaced.j4 (y20 : RingNet) (l216 : List Int) (x219 : Int) (x248 : Int) : Option ((List Int × Int) ⊕ (List Edge × Int)) :=
  bif decide (x248 < 2) then out (ring_Spaced.j1 y20 l216) else ((ring_net_round y20 x219 x248).bind fun y257 => bif !y257.2 then ring_Spaced.j3 x219 y257.1 else (ring_Spaced.j3 x219 l216))
noncomputable def ring_Spaced.s2 (a0 : Graph) (y20 : RingNet) : (List Int × Int) → Option ((List Int × Int) ⊕ (List Edge × Int))
  | (l216, x219) => bif decide (x219 < a0.N) then bif decide ((l216.length : Int) > 0) then ring_Spaced.j4 y20 l216 x219 (l216.length : Int) else (ring_Spaced.j4 y20 l216 x219 (w64 (a0.N + 1))) else (out (ring_Spaced.j1 y20 l216))
noncomputable def ring_Spaced (a0 : Graph) (a1 : Int) (a2 : Int) : Option (List Edge × Int) :=
  (graph_Check a0).bind fun y8 => bif (y8 != 0) then some (([] : List Edge), y8) else ((ring_newNet a0 a1 a2).bind fun y20 => iterF (ring_Spaced.s2 a0 y20) ([], 0))
noncomputable def ring_Plain (a0 : Graph) (a1 : Int) : Option (List Edge × Int) :=
  (ring_Spaced a0 a1 0).bind fun y7 => some (y7.1, y7.2)
noncomputable def ring_net_back.s3 (m7088 : List (Int × Int)) : (List Int × Int) → Option ((List Int × Int) ⊕ (((List (Int × Int)) × List Int × Bool × Int) ⊕ (((List (Int × Int)) × List Int × Bool) ⊕ (List Int × Bool))))
  | (l7666, x7670) => bif decide (x7670 ≥ 0) then must (((1 + l7666.length) + (1 + l7666.length) / 4 + 192) * 8 ≤ 281474976710656 ∧ 1 + l7666.length ≤ 9223372036854775807) (some (.inl (([x7670] : List Int) ++ l7666, mat m7088 x7670))) else (out (out (out (some (l7666, false)))))
noncomputable def ring_net_back.j5 (x7919 : Int) (m7972 : List (Int × Int)) (l7973 : List Int) (b7976 : Bool) : Option (((List (Int × Int)) × List Int × Bool × Int) ⊕ (((List (Int × Int)) × List Int × Bool × Int) ⊕ (((List (Int × Int)) × List Int × Bool) ⊕ (List Int × Bool)))) :=
  some (.inl (m7972, l7973, b7976, w64 (x7919 + 1)))
noncomputable def ring_net_back.j6 (l4885 : List Int) (x7094 : Int) (m7913 : List (Int × Int)) (l7914 : List Int) (b7917 : Bool) (x7919 : Int) (b7993 : Bool) : Option (((List (Int × Int)) × List Int × Bool × Int) ⊕ (((List (Int × Int)) × List Int × Bool × Int) ⊕ (((List (Int × Int)) × List Int × Bool) ⊕ (List Int × Bool)))) :=
  bif b7993 then must (((l7914.length + 1) + (l7914.length + 1) / 4 + 192) * 8 ≤ 281474976710656 ∧ l7914.length + 1 ≤ 9223372036854775807) (ring_net_back.j5 x7919 (mput m7913 x7919 (idx l4885 x7094)) (l7914 ++ ([x7919] : List Int)) false) else (ring_net_back.j5 x7919 m7913 l7914 b7917)
noncomputable def ring_net_back.s4 (a0 : RingNet) (l4885 : List Int) (x7094 : Int) : ((List (Int × Int)) × List Int × Bool × Int) → Option (((List (Int × Int)) × List Int × Bool × Int) ⊕ (((List (Int × Int)) × List Int × Bool × Int) ⊕ (((List (Int × Int)) × List Int × Bool) ⊕ (List Int × Bool))))
  | (m7913, l7914, b7917, x7919) => bif decide (x7919 < a0.g.N) then bif !(mhas m7913 x7919) then must (0 ≤ idx l4885 x7094 ∧ idx l4885 x7094 < (a0.links.length : Int)) (must (0 ≤ x7919 ∧ x7919 < ((idx a0.links (idx l4885 x7094)).length : Int)) (ring_net_back.j6 l4885 x7094 m7913 l7914 b7917 x7919 (decide ((idx (idx a0.links (idx l4885 x7094)) x7919).tight > 0)))) else (ring_net_back.j6 l4885 x7094 m7913 l7914 b7917 x7919 false) else (out (some (.inl (m7913, l7914, b7917, w64 (x7094 + 1)))))
noncomputable def ring_net_back.s2 (a0 : RingNet) (a2 : Int) (l4885 : List Int) : ((List (Int × Int)) × List Int × Bool × Int) → Option (((List (Int × Int)) × List Int × Bool × Int) ⊕ (((List (Int × Int)) × List Int × Bool) ⊕ (List Int × Bool)))
  | (m7088, l7089, b7092, x7094) => bif decide (x7094 < (l4885.length : Int)) then must (0 ≤ x7094 ∧ x7094 < (l4885.length : Int)) (bif (idx l4885 x7094 == a2) then iterF (ring_net_back.s3 m7088) (([] : List Int), mat m7088 (idx l4885 x7094)) else (iterF (ring_net_back.s4 a0 l4885 x7094) (m7088, l7089, b7092, 0))) else (out (some (.inl (m7088, l7089, b7092))))
noncomputable def ring_net_back.s1 (a0 : RingNet) (a2 : Int) : ((List (Int × Int)) × List Int × Bool) → Option (((List (Int × Int)) × List Int × Bool) ⊕ (List Int × Bool))
  | (m4884, l4885, b4888) => bif decide ((l4885.length : Int) > 0) then iterF (ring_net_back.s2 a0 a2 l4885) (m4884, [], true, 0) else (out (some (([] : List Int), true)))
noncomputable def ring_net_back (a0 : RingNet) (a1 : Int) (a2 : Int) : Option (List Int × Bool) :=
  iterF (ring_net_back.s1 a0 a2) (mput ([] : List (Int × Int)) a1 (-1), ([a1] : List Int), false)
noncomputable def ring_Single_1 (a0 : RingLink) (a1 : Int) : Option Int :=
  bif (a1 == 0) then some a0.loose else (some a0.tight)
noncomputable def ring_net_edges_ring_Single_1.s1 (a0 : RingNet) (a1 : List Int) : (List Edge × Int) → Option ((List Edge × Int) ⊕ (List Edge))
  | (l309, x312) => bif decide (x312 < (a1.length : Int)) then must (0 ≤ x312 ∧ x312 < (a1.length : Int)) (must (0 ≤ idx a1 x312 ∧ idx a1 x312 < (a0.links.length : Int)) (must ((a1.length : Int) ≠ 0) (must (0 ≤ (w64 (x312 + 1)).tmod (a1.length : Int) ∧ (w64 (x312 + 1)).tmod (a1.length : Int) < (a1.length : Int)) (must (0 ≤ idx a1 ((w64 (x312 + 1)).tmod (a1.length : Int)) ∧ idx a1 ((w64 (x312 + 1)).tmod (a1.length : Int)) < ((idx a0.links (idx a1 x312)).length : Int)) ((ring_Single_1 (idx (idx a0.links (idx a1 x312)) (idx a1 ((w64 (x312 + 1)).tmod (a1.length : Int)))) x312).bind fun y411 => must (0 ≤ w64 (y411 - 1) ∧ w64 (y411 - 1) < (a0.g.Edges.length : Int)) (must (((l309.length + 1) + (l309.length + 1) / 4 + 192) * 32 ≤ 281474976710656 ∧ l309.length + 1 ≤ 9223372036854775807) (some (.inl (l309 ++ ([(idx a0.g.Edges (w64 (y411 - 1)))] : List Edge), w64 (x312 + 1)))))))))) else (out (some l309))
noncomputable def ring_net_edges_ring_Single_1 (a0 : RingNet) (a1 : List Int) : Option (List Edge) :=
  iterF (ring_net_edges_ring_Single_1.s1 a0 a1) ([], 0)
noncomputable def ring_Single.j3 (x1762 : Int) (l1826 : List Int) (b1829 : Bool) : Option ((List Int × Bool × Int) ⊕ ((List Int × Bool × Int) ⊕ (List Edge × Int))) :=
  some (.inl (l1826, b1829, w64 (x1762 + 1)))
noncomputable def ring_Single.j4 (x1242 : Int) (l1757 : List Int) (b1760 : Bool) (x1762 : Int) (y1875 : (List Int × Bool)) (b1882 : Bool) : Option ((List Int × Bool × Int) ⊕ ((List Int × Bool × Int) ⊕ (List Edge × Int))) :=
  bif b1882 then must (((1 + y1875.1.length) + (1 + y1875.1.length) / 4 + 192) * 8 ≤ 281474976710656 ∧ 1 + y1875.1.length ≤ 9223372036854775807) (ring_Single.j3 x1762 (([x1242] : List Int) ++ y1875.1) false) else (ring_Single.j3 x1762 l1757 b1760)
noncomputable def ring_Single.s2 (a0 : Graph) (y20 : RingNet) (x1242 : Int) : (List Int × Bool × Int) → Option ((List Int × Bool × Int) ⊕ ((List Int × Bool × Int) ⊕ (List Edge × Int)))
  | (l1757, b1760, x1762) => bif decide (x1762 < a0.N) then must (0 ≤ x1242 ∧ x1242 < (y20.links.length : Int)) (must (0 ≤ x1762 ∧ x1762 < ((idx y20.links x1242).length : Int)) (bif ((idx (idx y20.links x1242) x1762).loose == 0) then ring_Single.j3 x1762 l1757 b1760 else ((ring_net_back y20 x1762 x1242).bind fun y1875 => bif !y1875.2 then bif b1760 then ring_Single.j4 x1242 l1757 b1760 x1762 y1875 true else (ring_Single.j4 x1242 l1757 b1760 x1762 y1875 (decide (w64 ((y1875.1.length : Int) + 1) < (l1757.length : Int)))) else (ring_Single.j4 x1242 l1757 b1760 x1762 y1875 false)))) else (out (some (.inl (l1757, b1760, w64 (x1242 + 1)))))
noncomputable def ring_Single.s1 (a0 : Graph) (y20 : RingNet) : (List Int × Bool × Int) → Option ((List Int × Bool × Int) ⊕ (List Edge × Int))
  | (l1237, b1240, x1242) => bif decide (x1242 < a0.N) then iterF (ring_Single.s2 a0 y20 x1242) (l1237, b1240, 0) else ((ring_net_edges_ring_Single_1 y20 l1237).bind fun y1897 => out (some (y1897, 0)))
noncomputable def ring_Single (a0 : Graph) (a1 : Int) (a2 : Int) : Option (List Edge × Int) :=
  (graph_Check a0).bind fun y8 => bif (y8 != 0) then some (([] : List Edge), y8) else ((ring_newNet a0 a1 a2).bind fun y20 => iterF (ring_Single.s1 a0 y20) ([], true, 0))
noncomputable def assizelaw07zalive : Option Bool :=
  (ring_Single (⟨2, ([(⟨0, 1, 8, 0⟩ : Edge), (⟨1, 0, 16, 0⟩ : Edge)] : List Edge)⟩ : Graph) 8 16).bind fun y11 => (ring_Plain (⟨2, ([(⟨0, 1, 8, 0⟩ : Edge), (⟨1, 0, 16, 0⟩ : Edge)] : List Edge)⟩ : Graph) 8).bind fun y19 => bif (y11.2 == 0) then bif ((y11.1.length : Int) == 2) then must (0 ≤ (0 : Int) ∧ (0 : Int) < (y11.1.length : Int)) (must (0 ≤ (1 : Int) ∧ (1 : Int) < (([(⟨0, 1, 8, 0⟩ : Edge), (⟨1, 0, 16, 0⟩ : Edge)] : List Edge).length : Int)) (bif (((idx y11.1 (0 : Int)).From == (idx ([(⟨0, 1, 8, 0⟩ : Edge), (⟨1, 0, 16, 0⟩ : Edge)] : List Edge) (1 : Int)).From) && (((idx y11.1 (0 : Int)).To == (idx ([(⟨0, 1, 8, 0⟩ : Edge), (⟨1, 0, 16, 0⟩ : Edge)] : List Edge) (1 : Int)).To) && (((idx y11.1 (0 : Int)).Kind == (idx ([(⟨0, 1, 8, 0⟩ : Edge), (⟨1, 0, 16, 0⟩ : Edge)] : List Edge) (1 : Int)).Kind) && (((idx y11.1 (0 : Int)).Key == (idx ([(⟨0, 1, 8, 0⟩ : Edge), (⟨1, 0, 16, 0⟩ : Edge)] : List Edge) (1 : Int)).Key) && true)))) then bif (y19.2 == 0) then bif ((y19.1.length : Int) == 0) then (ring_Fits (⟨2, ([(⟨0, 1, 8, 0⟩ : Edge), (⟨1, 0, 16, 0⟩ : Edge)] : List Edge)⟩ : Graph) y11.1 8 16 2).bind fun y44 => bif y44 then (ring_Fits (⟨2, ([(⟨0, 1, 8, 0⟩ : Edge), (⟨1, 0, 16, 0⟩ : Edge)] : List Edge)⟩ : Graph) y11.1 8 16 1).bind fun y47 => some (!y47) else (some false) else (some false) else (some false) else (some false))) else (some false) else (some false)
end Fuel
theorem graph_Check_1zle (a0 : Int) (a1 : Graph) : Le (Fuel.graph_Check_1 a0 a1) (graph_Check_1 a0 a1) := by
  simp only [Fuel.graph_Check_1, graph_Check_1]
  repeat' (first | with_reducible exact le_refl _ | with_reducible apply le_must | with_reducible apply le_cond | with_reducible apply le_out | with_reducible refine le_bind ?_ (fun _ => ?_) | with_reducible refine Fuel.le_iterF (fun _ => ?_))

theorem bits_OnesCount32zle (a0 : Int) : Le (Fuel.bits_OnesCount32 a0) (bits_OnesCount32 a0) := by
  simp only [Fuel.bits_OnesCount32, bits_OnesCount32]
  repeat' (first | with_reducible exact le_refl _ | with_reducible apply le_must | with_reducible apply le_cond | with_reducible apply le_out | with_reducible refine le_bind ?_ (fun _ => ?_) | with_reducible refine Fuel.le_iterF (fun _ => ?_))

theorem bits_OnesCount64zle (a0 : Int) : Le (Fuel.bits_OnesCount64 a0) (bits_OnesCount64 a0) := by
  simp only [Fuel.bits_OnesCount64, bits_OnesCount64]
  repeat' (first | with_reducible exact le_refl _ | with_reducible apply le_must | with_reducible apply le_cond | with_reducible apply le_out | with_reducible refine le_bind ?_ (fun _ => ?_) | with_reducible refine Fuel.le_iterF (fun _ => ?_))

theorem bits_OnesCount_le (a0 : Int) : Le (Fuel.bits_OnesCount a0) (bits_OnesCount a0) := by
  simp only [Fuel.bits_OnesCount, bits_OnesCount]
  repeat' (first | with_reducible exact le_refl _ | with_reducible apply bits_OnesCount64zle | with_reducible apply le_must | with_reducible apply le_cond | with_reducible apply le_out | with_reducible refine le_bind ?_ (fun _ => ?_) | with_reducible refine Fuel.le_iterF (fun _ => ?_))

theorem graph_Check.j3zle (x165 : Int) (b218 : Bool) : Le (Fuel.graph_Check.j3 x165 b218) (graph_Check.j3 x165 b218) := by
  simp only [Fuel.graph_Check.j3, graph_Check.j3]
  repeat' (first | with_reducible exact le_refl _ | with_reducible apply le_must | with_reducible apply le_cond | with_reducible apply le_out | with_reducible refine le_bind ?_ (fun _ => ?_) | with_reducible refine Fuel.le_iterF (fun _ => ?_))

theorem graph_Check.s2zle (a0 : Graph) : ∀ (s0 : _), Le (Fuel.graph_Check.s2 a0 s0) (graph_Check.s2 a0 s0)
  | x165 => by
    simp only [Fuel.graph_Check.s2, graph_Check.s2]
    repeat' (first | with_reducible exact le_refl _ | with_reducible apply graph_Check_1zle | with_reducible apply bits_OnesCount_le | with_reducible apply graph_Check.j3zle | with_reducible apply le_must | with_reducible apply le_cond | with_reducible apply le_out | with_reducible refine le_bind ?_ (fun _ => ?_) | with_reducible refine Fuel.le_iterF (fun _ => ?_) | with_reducible exact hY _ _ | with_reducible assumption | with_reducible intro _ _)

theorem graph_Check.j1zle (a0 : Graph) (b9 : Bool) : Le (Fuel.graph_Check.j1 a0 b9) (graph_Check.j1 a0 b9) := by
  simp only [Fuel.graph_Check.j1, graph_Check.j1]
  repeat' (first | with_reducible exact le_refl _ | with_reducible apply graph_Check.s2zle | with_reducible apply le_must | with_reducible apply le_cond | with_reducible apply le_out | with_reducible refine le_bind ?_ (fun _ => ?_) | with_reducible refine Fuel.le_iterF (fun _ => ?_))

theorem graph_Check_le (a0 : Graph) : Le (Fuel.graph_Check a0) (graph_Check a0) := by
  simp only [Fuel.graph_Check, graph_Check]
  repeat' (first | with_reducible exact le_refl _ | with_reducible apply graph_Check.j1zle | with_reducible apply le_must | with_reducible apply le_cond | with_reducible apply le_out | with_reducible refine le_bind ?_ (fun _ => ?_) | with_reducible refine Fuel.le_iterF (fun _ => ?_))

theorem ring_Fits.j5zle (a1 : List Edge) (m354 : List (Int × Unit)) (x355 : Int) : Le (Fuel.ring_Fits.j5 a1 m354 x355) (ring_Fits.j5 a1 m354 x355) := by
  simp only [Fuel.ring_Fits.j5, ring_Fits.j5]
  repeat' (first | with_reducible exact le_refl _ | with_reducible apply le_must | with_reducible apply le_cond | with_reducible apply le_out | with_reducible refine le_bind ?_ (fun _ => ?_) | with_reducible refine Fuel.le_iterF (fun _ => ?_))

theorem ring_Fits.j6zle (a1 : List Edge) (m354 : List (Int × Unit)) (x355 : Int) (b454 : Bool) : Le (Fuel.ring_Fits.j6 a1 m354 x355 b454) (ring_Fits.j6 a1 m354 x355 b454) := by
  simp only [Fuel.ring_Fits.j6, ring_Fits.j6]
  repeat' (first | with_reducible exact le_refl _ | with_reducible apply ring_Fits.j5zle | with_reducible apply le_must | with_reducible apply le_cond | with_reducible apply le_out | with_reducible refine le_bind ?_ (fun _ => ?_) | with_reducible refine Fuel.le_iterF (fun _ => ?_))

theorem ring_Fits.j7zle (a1 : List Edge) (m354 : List (Int × Unit)) (x355 : Int) (b464 : Bool) : Le (Fuel.ring_Fits.j7 a1 m354 x355 b464) (ring_Fits.j7 a1 m354 x355 b464) := by
  simp only [Fuel.ring_Fits.j7, ring_Fits.j7]
  repeat' (first | with_reducible exact le_refl _ | with_reducible apply ring_Fits.j5zle | with_reducible apply le_must | with_reducible apply le_cond | with_reducible apply le_out | with_reducible refine le_bind ?_ (fun _ => ?_) | with_reducible refine Fuel.le_iterF (fun _ => ?_))

theorem ring_Fits.j4zle (a1 : List Edge) (a2 : Int) (a3 : Int) (a4 : Int) (m354 : List (Int × Unit)) (x355 : Int) (b429 : Bool) : Le (Fuel.ring_Fits.j4 a1 a2 a3 a4 m354 x355 b429) (ring_Fits.j4 a1 a2 a3 a4 m354 x355 b429) := by
  simp only [Fuel.ring_Fits.j4, ring_Fits.j4]
  repeat' (first | with_reducible exact le_refl _ | with_reducible apply ring_Fits.j5zle | with_reducible apply ring_Fits.j6zle | with_reducible apply ring_Fits.j7zle | with_reducible apply le_must | with_reducible apply le_cond | with_reducible apply le_out | with_reducible refine le_bind ?_ (fun _ => ?_) | with_reducible refine Fuel.le_iterF (fun _ => ?_))

theorem ring_Fits.s3zle (a1 : List Edge) (a2 : Int) (a3 : Int) (a4 : Int) (m90 : List (Edge × Unit)) : ∀ (s0 : _), Le (Fuel.ring_Fits.s3 a1 a2 a3 a4 m90 s0) (ring_Fits.s3 a1 a2 a3 a4 m90 s0)
  | (m354, x355) => by
    simp only [Fuel.ring_Fits.s3, ring_Fits.s3]
    repeat' (first | with_reducible exact le_refl _ | with_reducible apply ring_Fits.j4zle | with_reducible apply le_must | with_reducible apply le_cond | with_reducible apply le_out | with_reducible refine le_bind ?_ (fun _ => ?_) | with_reducible refine Fuel.le_iterF (fun _ => ?_))

theorem ring_Fits.s2zle (a0 : Graph) (a1 : List Edge) (a2 : Int) (a3 : Int) (a4 : Int) : ∀ (s0 : _), Le (Fuel.ring_Fits.s2 a0 a1 a2 a3 a4 s0) (ring_Fits.s2 a0 a1 a2 a3 a4 s0)
  | (m90, x91) => by
    simp only [Fuel.ring_Fits.s2, ring_Fits.s2]
    repeat' (first | with_reducible exact le_refl _ | with_reducible apply ring_Fits.s3zle | with_reducible apply le_must | with_reducible apply le_cond | with_reducible apply le_out | with_reducible refine le_bind ?_ (fun _ => ?_) | with_reducible refine Fuel.le_iterF (fun _ => ?_))

theorem ring_Fits.j1zle (a0 : Graph) (a1 : List Edge) (a2 : Int) (a3 : Int) (a4 : Int) (b11 : Bool) : Le (Fuel.ring_Fits.j1 a0 a1 a2 a3 a4 b11) (ring_Fits.j1 a0 a1 a2 a3 a4 b11) := by
  simp only [Fuel.ring_Fits.j1, ring_Fits.j1]
  repeat' (first | with_reducible exact le_refl _ | with_reducible apply ring_Fits.s2zle | with_reducible apply le_must | with_reducible apply le_cond | with_reducible apply le_out | with_reducible refine le_bind ?_ (fun _ => ?_) | with_reducible refine Fuel.le_iterF (fun _ => ?_))

theorem ring_Fits_le (a0 : Graph) (a1 : List Edge) (a2 : Int) (a3 : Int) (a4 : Int) : Le (Fuel.ring_Fits a0 a1 a2 a3 a4) (ring_Fits a0 a1 a2 a3 a4) := by
  simp only [Fuel.ring_Fits, ring_Fits]
  repeat' (first | with_reducible exact le_refl _ | with_reducible apply graph_Check_le | with_reducible apply ring_Fits.j1zle | with_reducible apply le_must | with_reducible apply le_cond | with_reducible apply le_out | with_reducible refine le_bind ?_ (fun _ => ?_) | with_reducible refine Fuel.le_iterF (fun _ => ?_))

theorem ring_newNet.s2zle (a0 : Graph) (a1 : Int) (a2 : Int) : ∀ (s0 : _), Le (Fuel.ring_newNet.s2 a0 a1 a2 s0) (ring_newNet.s2 a0 a1 a2 s0)
  | (l477, x480) => by
    simp only [Fuel.ring_newNet.s2, ring_newNet.s2]
    repeat' (first | with_reducible exact le_refl _ | with_reducible apply le_must | with_reducible apply le_cond | with_reducible apply le_out | with_reducible refine le_bind ?_ (fun _ => ?_) | with_reducible refine Fuel.le_iterF (fun _ => ?_))

theorem ring_newNet.s1zle (a0 : Graph) (a1 : Int) (a2 : Int) : ∀ (s0 : _), Le (Fuel.ring_newNet.s1 a0 a1 a2 s0) (ring_newNet.s1 a0 a1 a2 s0)
  | (l170, x173) => by
    simp only [Fuel.ring_newNet.s1, ring_newNet.s1]
    repeat' (first | with_reducible exact le_refl _ | with_reducible apply ring_newNet.s2zle | with_reducible apply le_must | with_reducible apply le_cond | with_reducible apply le_out | with_reducible refine le_bind ?_ (fun _ => ?_) | with_reducible refine Fuel.le_iterF (fun _ => ?_))

theorem ring_newNet_le (a0 : Graph) (a1 : Int) (a2 : Int) : Le (Fuel.ring_newNet a0 a1 a2) (ring_newNet a0 a1 a2) := by
  simp only [Fuel.ring_newNet, ring_newNet]
  repeat' (first | with_reducible exact le_refl _ | with_reducible apply ring_newNet.s1zle | with_reducible apply le_must | with_reducible apply le_cond | with_reducible apply le_out | with_reducible refine le_bind ?_ (fun _ => ?_) | with_reducible refine Fuel.le_iterF (fun _ => ?_))

theorem ring_net_onward_1.j2zle {σ : Type} (x138 : Int) (s185 : σ) : Le (Fuel.ring_net_onward_1.j2 x138 s185) (ring_net_onward_1.j2 x138 s185) := by
  simp only [Fuel.ring_net_onward_1.j2, ring_net_onward_1.j2]
  repeat' (first | with_reducible exact le_refl _ | with_reducible apply le_must | with_reducible apply le_cond | with_reducible apply le_out | with_reducible refine le_bind ?_ (fun _ => ?_) | with_reducible refine Fuel.le_iterF (fun _ => ?_))

theorem ring_net_onward_1.j3zle {σ : Type} {Y Y' : σ → RingSpot → Option (Bool × σ)} (hY : ∀ s a, Le (Y s a) (Y' s a)) (a2 : RingNet) (a3 : RingSpot) (x138 : Int) (s139 : σ) (b221 : Bool) : Le (Fuel.ring_net_onward_1.j3 Y a2 a3 x138 s139 b221) (ring_net_onward_1.j3 Y' a2 a3 x138 s139 b221) := by
  simp only [Fuel.ring_net_onward_1.j3, ring_net_onward_1.j3]
  repeat' (first | with_reducible exact le_refl _ | with_reducible apply ring_net_onward_1.j2zle | with_reducible apply le_must | with_reducible apply le_cond | with_reducible apply le_out | with_reducible refine le_bind ?_ (fun _ => ?_) | with_reducible refine Fuel.le_iterF (fun _ => ?_) | with_reducible exact hY _ _ | with_reducible assumption | with_reducible intro _ _)

theorem ring_net_onward_1.s1zle {σ : Type} {Y Y' : σ → RingSpot → Option (Bool × σ)} (hY : ∀ s a, Le (Y s a) (Y' s a)) (a2 : RingNet) (a3 : RingSpot) : ∀ (s0 : _), Le (Fuel.ring_net_onward_1.s1 Y a2 a3 s0) (ring_net_onward_1.s1 Y' a2 a3 s0)
  | (x138, s139) => by
    simp only [Fuel.ring_net_onward_1.s1, ring_net_onward_1.s1]
    repeat' (first | with_reducible exact le_refl _ | with_reducible apply ring_net_onward_1.j3zle | with_reducible apply le_must | with_reducible apply le_cond | with_reducible apply le_out | with_reducible refine le_bind ?_ (fun _ => ?_) | with_reducible refine Fuel.le_iterF (fun _ => ?_) | with_reducible exact hY _ _ | with_reducible assumption | with_reducible intro _ _)

theorem ring_net_onward_1zle {σ : Type} {Y Y' : σ → RingSpot → Option (Bool × σ)} (hY : ∀ s a, Le (Y s a) (Y' s a)) (a1 : Int) (a2 : RingNet) (a3 : RingSpot) (s0 : σ) : Le (Fuel.ring_net_onward_1 Y a1 a2 a3 s0) (ring_net_onward_1 Y' a1 a2 a3 s0) := by
  simp only [Fuel.ring_net_onward_1, ring_net_onward_1]
  repeat' (first | with_reducible exact le_refl _ | with_reducible apply ring_net_onward_1.s1zle | with_reducible apply le_must | with_reducible apply le_cond | with_reducible apply le_out | with_reducible refine le_bind ?_ (fun _ => ?_) | with_reducible refine Fuel.le_iterF (fun _ => ?_) | with_reducible exact hY _ _ | with_reducible assumption | with_reducible intro _ _)

theorem ring_net_onward_le (a0 : RingNet) (a1 : RingSpot) (a2 : Int) : Le (Fuel.ring_net_onward a0 a1 a2) (ring_net_onward a0 a1 a2) := by
  simp only [Fuel.ring_net_onward, ring_net_onward]
  repeat' (first | with_reducible exact le_refl _ | with_reducible apply le_must | with_reducible apply le_cond | with_reducible apply le_out | with_reducible refine le_bind ?_ (fun _ => ?_) | with_reducible refine Fuel.le_iterF (fun _ => ?_))

theorem ring_home_le (a0 : RingSpot) (a1 : Int) : Le (Fuel.ring_home a0 a1) (ring_home a0 a1) := by
  simp only [Fuel.ring_home, ring_home]
  repeat' (first | with_reducible exact le_refl _ | with_reducible apply le_must | with_reducible apply le_cond | with_reducible apply le_out | with_reducible refine le_bind ?_ (fun _ => ?_) | with_reducible refine Fuel.le_iterF (fun _ => ?_))

theorem ring_trail.s1zle (a0 : List (RingSpot × RingSpot)) (a2 : Int) : ∀ (s0 : _), Le (Fuel.ring_trail.s1 a0 a2 s0) (ring_trail.s1 a0 a2 s0)
  | (x180, b181, b182, l183) => by
    simp only [Fuel.ring_trail.s1, ring_trail.s1]
    repeat' (first | with_reducible exact le_refl _ | with_reducible apply le_must | with_reducible apply le_cond | with_reducible apply le_out | with_reducible refine le_bind ?_ (fun _ => ?_) | with_reducible refine Fuel.le_iterF (fun _ => ?_))

theorem ring_trail_le (a0 : List (RingSpot × RingSpot)) (a1 : RingSpot) (a2 : Int) : Le (Fuel.ring_trail a0 a1 a2) (ring_trail a0 a1 a2) := by
  simp only [Fuel.ring_trail, ring_trail]
  repeat' (first | with_reducible exact le_refl _ | with_reducible apply ring_trail.s1zle | with_reducible apply le_must | with_reducible apply le_cond | with_reducible apply le_out | with_reducible refine le_bind ?_ (fun _ => ?_) | with_reducible refine Fuel.le_iterF (fun _ => ?_))

theorem ring_net_round.j2zle (m334 : List (RingSpot × RingSpot)) (l335 : List RingSpot) (b338 : Bool) : Le (Fuel.ring_net_round.j2 m334 l335 b338) (ring_net_round.j2 m334 l335 b338) := by
  simp only [Fuel.ring_net_round.j2, ring_net_round.j2]
  repeat' (first | with_reducible exact le_refl _ | with_reducible apply le_must | with_reducible apply le_cond | with_reducible apply le_out | with_reducible refine le_bind ?_ (fun _ => ?_) | with_reducible refine Fuel.le_iterF (fun _ => ?_))

theorem ring_net_round.y1zle (a1 : Int) : ∀ (s0 : _) (s1 : _), Le (Fuel.ring_net_round.y1 a1 s0 s1) (ring_net_round.y1 a1 s0 s1)
  | .inl (m311, l312, b315), a252 => by
    simp only [Fuel.ring_net_round.y1, ring_net_round.y1]
    repeat' (first | with_reducible exact le_refl _ | with_reducible apply ring_home_le | with_reducible apply ring_net_round.j2zle | with_reducible apply le_must | with_reducible apply le_cond | with_reducible apply le_out | with_reducible refine le_bind ?_ (fun _ => ?_) | with_reducible refine Fuel.le_iterF (fun _ => ?_))
  | .inr _, _ => by
    simp only [Fuel.ring_net_round.y1, ring_net_round.y1]
    repeat' (first | with_reducible exact le_refl _ | with_reducible apply ring_home_le | with_reducible apply ring_net_round.j2zle | with_reducible apply le_must | with_reducible apply le_cond | with_reducible apply le_out | with_reducible refine le_bind ?_ (fun _ => ?_) | with_reducible refine Fuel.le_iterF (fun _ => ?_))

theorem ring_net_round.j7zle (m6046 : List (RingSpot × RingSpot)) (l6047 : List RingSpot) (b6050 : Bool) : Le (Fuel.ring_net_round.j7 m6046 l6047 b6050) (ring_net_round.j7 m6046 l6047 b6050) := by
  simp only [Fuel.ring_net_round.j7, ring_net_round.j7]
  repeat' (first | with_reducible exact le_refl _ | with_reducible apply le_must | with_reducible apply le_cond | with_reducible apply le_out | with_reducible refine le_bind ?_ (fun _ => ?_) | with_reducible refine Fuel.le_iterF (fun _ => ?_))

theorem ring_net_round.y6zle (a1 : Int) (l3696 : List RingSpot) (x5569 : Int) : ∀ (s0 : _) (s1 : _), Le (Fuel.ring_net_round.y6 a1 l3696 x5569 s0 s1) (ring_net_round.y6 a1 l3696 x5569 s0 s1)
  | .inl (m6018, l6019, b6022), a5953 => by
    simp only [Fuel.ring_net_round.y6, ring_net_round.y6]
    repeat' (first | with_reducible exact le_refl _ | with_reducible apply ring_home_le | with_reducible apply ring_trail_le | with_reducible apply ring_net_round.j7zle | with_reducible apply le_must | with_reducible apply le_cond | with_reducible apply le_out | with_reducible refine le_bind ?_ (fun _ => ?_) | with_reducible refine Fuel.le_iterF (fun _ => ?_))
  | .inr _, _ => by
    simp only [Fuel.ring_net_round.y6, ring_net_round.y6]
    repeat' (first | with_reducible exact le_refl _ | with_reducible apply ring_home_le | with_reducible apply ring_trail_le | with_reducible apply ring_net_round.j7zle | with_reducible apply le_must | with_reducible apply le_cond | with_reducible apply le_out | with_reducible refine le_bind ?_ (fun _ => ?_) | with_reducible refine Fuel.le_iterF (fun _ => ?_))

theorem ring_net_round.k6zle (x5569 : Int) : ∀ (s0 : _), Le (Fuel.ring_net_round.k6 x5569 s0) (ring_net_round.k6 x5569 s0)
  | .inl ((m6018, l6019, b6022)) => by
    simp only [Fuel.ring_net_round.k6, ring_net_round.k6]
    repeat' (first | with_reducible exact le_refl _ | with_reducible apply le_must | with_reducible apply le_cond | with_reducible apply le_out | with_reducible refine le_bind ?_ (fun _ => ?_) | with_reducible refine Fuel.le_iterF (fun _ => ?_))
  | .inr ((l6024, b6027)) => by
    simp only [Fuel.ring_net_round.k6, ring_net_round.k6]
    repeat' (first | with_reducible exact le_refl _ | with_reducible apply le_must | with_reducible apply le_cond | with_reducible apply le_out | with_reducible refine le_bind ?_ (fun _ => ?_) | with_reducible refine Fuel.le_iterF (fun _ => ?_))

theorem ring_net_round.s5zle (a0 : RingNet) (a1 : Int) (l3696 : List RingSpot) (x3701 : Int) : ∀ (s0 : _), Le (Fuel.ring_net_round.s5 a0 a1 l3696 x3701 s0) (ring_net_round.s5 a0 a1 l3696 x3701 s0)
  | (m5563, l5564, b5567, x5569) => by
    simp only [Fuel.ring_net_round.s5, ring_net_round.s5]
    repeat' (first | with_reducible exact le_refl _ | with_reducible apply ring_net_onward_1zle | with_reducible apply ring_net_onward_le | with_reducible apply ring_net_round.y6zle | with_reducible apply ring_net_round.k6zle | with_reducible apply le_must | with_reducible apply le_cond | with_reducible apply le_out | with_reducible refine le_bind ?_ (fun _ => ?_) | with_reducible refine Fuel.le_iterF (fun _ => ?_) | with_reducible exact hY _ _ | with_reducible assumption | with_reducible intro _ _)

theorem ring_net_round.j4zle (a0 : RingNet) (a1 : Int) (m3695 : List (RingSpot × RingSpot)) (l3696 : List RingSpot) (x3701 : Int) (b3708 : Bool) : Le (Fuel.ring_net_round.j4 a0 a1 m3695 l3696 x3701 b3708) (ring_net_round.j4 a0 a1 m3695 l3696 x3701 b3708) := by
  simp only [Fuel.ring_net_round.j4, ring_net_round.j4]
  repeat' (first | with_reducible exact le_refl _ | with_reducible apply ring_net_round.s5zle | with_reducible apply le_must | with_reducible apply le_cond | with_reducible apply le_out | with_reducible refine le_bind ?_ (fun _ => ?_) | with_reducible refine Fuel.le_iterF (fun _ => ?_))

theorem ring_net_round.s3zle (a0 : RingNet) (a1 : Int) (a2 : Int) : ∀ (s0 : _), Le (Fuel.ring_net_round.s3 a0 a1 a2 s0) (ring_net_round.s3 a0 a1 a2 s0)
  | (m3695, l3696, b3699, x3701) => by
    simp only [Fuel.ring_net_round.s3, ring_net_round.s3]
    repeat' (first | with_reducible exact le_refl _ | with_reducible apply ring_net_round.j4zle | with_reducible apply le_must | with_reducible apply le_cond | with_reducible apply le_out | with_reducible refine le_bind ?_ (fun _ => ?_) | with_reducible refine Fuel.le_iterF (fun _ => ?_))

theorem ring_net_round.k1zle (a0 : RingNet) (a1 : Int) (a2 : Int) : ∀ (s0 : _), Le (Fuel.ring_net_round.k1 a0 a1 a2 s0) (ring_net_round.k1 a0 a1 a2 s0)
  | .inl ((m311, l312, b315)) => by
    simp only [Fuel.ring_net_round.k1, ring_net_round.k1]
    repeat' (first | with_reducible exact le_refl _ | with_reducible apply ring_net_round.s3zle | with_reducible apply le_must | with_reducible apply le_cond | with_reducible apply le_out | with_reducible refine le_bind ?_ (fun _ => ?_) | with_reducible refine Fuel.le_iterF (fun _ => ?_))
  | .inr _ => by
    simp only [Fuel.ring_net_round.k1, ring_net_round.k1]
    repeat' (first | with_reducible exact le_refl _ | with_reducible apply ring_net_round.s3zle | with_reducible apply le_must | with_reducible apply le_cond | with_reducible apply le_out | with_reducible refine le_bind ?_ (fun _ => ?_) | with_reducible refine Fuel.le_iterF (fun _ => ?_))

theorem ring_net_round_le (a0 : RingNet) (a1 : Int) (a2 : Int) : Le (Fuel.ring_net_round a0 a1 a2) (ring_net_round a0 a1 a2) := by
  simp only [Fuel.ring_net_round, ring_net_round]
  repeat' (first | with_reducible exact le_refl _ | with_reducible apply ring_net_onward_1zle | with_reducible apply ring_net_onward_le | with_reducible apply ring_net_round.y1zle | with_reducible apply ring_net_round.k1zle | with_reducible apply le_must | with_reducible apply le_cond | with_reducible apply le_out | with_reducible refine le_bind ?_ (fun _ => ?_) | with_reducible refine Fuel.le_iterF (fun _ => ?_) | with_reducible exact hY _ _ | with_reducible assumption | with_reducible intro _ _)

theorem ring_Spaced_1zle (a0 : RingLink) (a1 : Int) : Le (Fuel.ring_Spaced_1 a0 a1) (ring_Spaced_1 a0 a1) := by
  simp only [Fuel.ring_Spaced_1, ring_Spaced_1]
  repeat' (first | with_reducible exact le_refl _ | with_reducible apply le_must | with_reducible apply le_cond | with_reducible apply le_out | with_reducible refine le_bind ?_ (fun _ => ?_) | with_reducible refine Fuel.le_iterF (fun _ => ?_))

theorem ring_net_edges_ring_Spaced_1.s1zle (a0 : RingNet) (a1 : List Int) : ∀ (s0 : _), Le (Fuel.ring_net_edges_ring_Spaced_1.s1 a0 a1 s0) (ring_net_edges_ring_Spaced_1.s1 a0 a1 s0)
  | (l309, x312) => by
    simp only [Fuel.ring_net_edges_ring_Spaced_1.s1, ring_net_edges_ring_Spaced_1.s1]
    repeat' (first | with_reducible exact le_refl _ | with_reducible apply ring_Spaced_1zle | with_reducible apply le_must | with_reducible apply le_cond | with_reducible apply le_out | with_reducible refine le_bind ?_ (fun _ => ?_) | with_reducible refine Fuel.le_iterF (fun _ => ?_) | with_reducible exact hY _ _ | with_reducible assumption | with_reducible intro _ _)

theorem ring_net_edges_ring_Spaced_1zle (a0 : RingNet) (a1 : List Int) : Le (Fuel.ring_net_edges_ring_Spaced_1 a0 a1) (ring_net_edges_ring_Spaced_1 a0 a1) := by
  simp only [Fuel.ring_net_edges_ring_Spaced_1, ring_net_edges_ring_Spaced_1]
  repeat' (first | with_reducible exact le_refl _ | with_reducible apply ring_net_edges_ring_Spaced_1.s1zle | with_reducible apply le_must | with_reducible apply le_cond | with_reducible apply le_out | with_reducible refine le_bind ?_ (fun _ => ?_) | with_reducible refine Fuel.le_iterF (fun _ => ?_) | with_reducible exact hY _ _ | with_reducible assumption | with_reducible intro _ _)

theorem ring_Spaced.j1zle (y20 : RingNet) (l158 : List Int) : Le (Fuel.ring_Spaced.j1 y20 l158) (ring_Spaced.j1 y20 l158) := by
  simp only [Fuel.ring_Spaced.j1, ring_Spaced.j1]
  repeat' (first | with_reducible exact le_refl _ | with_reducible apply ring_net_edges_ring_Spaced_1zle | with_reducible apply le_must | with_reducible apply le_cond | with_reducible apply le_out | with_reducible refine le_bind ?_ (fun _ => ?_) | with_reducible refine Fuel.le_iterF (fun _ => ?_) | with_reducible exact hY _ _ | with_reducible assumption | with_reducible intro _ _)

theorem ring_Spaced.j3zle (x219 : Int) (l243 : List Int) : Le (Fuel.ring_Spaced.j3 x219 l243) (ring_Spaced.j3 x219 l243) := by
  simp only [Fuel.ring_Spaced.j3, ring_Spaced.j3]
  repeat' (first | with_reducible exact le_refl _ | with_reducible apply le_must | with_reducible apply le_cond | with_reducible apply le_out | with_reducible refine le_bind ?_ (fun _ => ?_) | with_reducible refine Fuel.le_iterF (fun _ => ?_))

theorem ring_Spaced.j4zle (y20 : RingNet) (l216 : List Int) (x219 : Int) (x248 : Int) : Le (Fuel.ring_Spaced.j4 y20 l216 x219 x248) (ring_Spaced.j4 y20 l216 x219 x248) := by
  simp only [Fuel.ring_Spaced.j4, ring_Spaced.j4]
  repeat' (first | with_reducible exact le_refl _ | with_reducible apply ring_net_round_le | with_reducible apply ring_Spaced.j1zle | with_reducible apply ring_Spaced.j3zle | with_reducible apply le_must | with_reducible apply le_cond | with_reducible apply le_out | with_reducible refine le_bind ?_ (fun _ => ?_) | with_reducible refine Fuel.le_iterF (fun _ => ?_))

theorem ring_Spaced.s2zle (a0 : Graph) (y20 : RingNet) : ∀ (s0 : _), Le (Fuel.ring_Spaced.s2 a0 y20 s0) (ring_Spaced.s2 a0 y20 s0)
  | (l216, x219) => by
    simp only [Fuel.ring_Spaced.s2, ring_Spaced.s2]
    repeat' (first | with_reducible exact le_refl _ | with_reducible apply ring_Spaced.j1zle | with_reducible apply ring_Spaced.j4zle | with_reducible apply le_must | with_reducible apply le_cond | with_reducible apply le_out | with_reducible refine le_bind ?_ (fun _ => ?_) | with_reducible refine Fuel.le_iterF (fun _ => ?_))

theorem ring_Spaced_le (a0 : Graph) (a1 : Int) (a2 : Int) : Le (Fuel.ring_Spaced a0 a1 a2) (ring_Spaced a0 a1 a2) := by
  simp only [Fuel.ring_Spaced, ring_Spaced]
  repeat' (first | with_reducible exact le_refl _ | with_reducible apply graph_Check_le | with_reducible apply ring_newNet_le | with_reducible apply ring_Spaced.s2zle | with_reducible apply le_must | with_reducible apply le_cond | with_reducible apply le_out | with_reducible refine le_bind ?_ (fun _ => ?_) | with_reducible refine Fuel.le_iterF (fun _ => ?_))

theorem ring_Plain_le (a0 : Graph) (a1 : Int) : Le (Fuel.ring_Plain a0 a1) (ring_Plain a0 a1) := by
  simp only [Fuel.ring_Plain, ring_Plain]
  repeat' (first | with_reducible exact le_refl _ | with_reducible apply ring_Spaced_le | with_reducible apply le_must | with_reducible apply le_cond | with_reducible apply le_out | with_reducible refine le_bind ?_ (fun _ => ?_) | with_reducible refine Fuel.le_iterF (fun _ => ?_))

theorem ring_net_back.s3zle (m7088 : List (Int × Int)) : ∀ (s0 : _), Le (Fuel.ring_net_back.s3 m7088 s0) (ring_net_back.s3 m7088 s0)
  | (l7666, x7670) => by
    simp only [Fuel.ring_net_back.s3, ring_net_back.s3]
    repeat' (first | with_reducible exact le_refl _ | with_reducible apply le_must | with_reducible apply le_cond | with_reducible apply le_out | with_reducible refine le_bind ?_ (fun _ => ?_) | with_reducible refine Fuel.le_iterF (fun _ => ?_))

theorem ring_net_back.j5zle (x7919 : Int) (m7972 : List (Int × Int)) (l7973 : List Int) (b7976 : Bool) : Le (Fuel.ring_net_back.j5 x7919 m7972 l7973 b7976) (ring_net_back.j5 x7919 m7972 l7973 b7976) := by
  simp only [Fuel.ring_net_back.j5, ring_net_back.j5]
  repeat' (first | with_reducible exact le_refl _ | with_reducible apply le_must | with_reducible apply le_cond | with_reducible apply le_out | with_reducible refine le_bind ?_ (fun _ => ?_) | with_reducible refine Fuel.le_iterF (fun _ => ?_))

theorem ring_net_back.j6zle (l4885 : List Int) (x7094 : Int) (m7913 : List (Int × Int)) (l7914 : List Int) (b7917 : Bool) (x7919 : Int) (b7993 : Bool) : Le (Fuel.ring_net_back.j6 l4885 x7094 m7913 l7914 b7917 x7919 b7993) (ring_net_back.j6 l4885 x7094 m7913 l7914 b7917 x7919 b7993) := by
  simp only [Fuel.ring_net_back.j6, ring_net_back.j6]
  repeat' (first | with_reducible exact le_refl _ | with_reducible apply ring_net_back.j5zle | with_reducible apply le_must | with_reducible apply le_cond | with_reducible apply le_out | with_reducible refine le_bind ?_ (fun _ => ?_) | with_reducible refine Fuel.le_iterF (fun _ => ?_))

theorem ring_net_back.s4zle (a0 : RingNet) (l4885 : List Int) (x7094 : Int) : ∀ (s0 : _), Le (Fuel.ring_net_back.s4 a0 l4885 x7094 s0) (ring_net_back.s4 a0 l4885 x7094 s0)
  | (m7913, l7914, b7917, x7919) => by
    simp only [Fuel.ring_net_back.s4, ring_net_back.s4]
    repeat' (first | with_reducible exact le_refl _ | with_reducible apply ring_net_back.j6zle | with_reducible apply le_must | with_reducible apply le_cond | with_reducible apply le_out | with_reducible refine le_bind ?_ (fun _ => ?_) | with_reducible refine Fuel.le_iterF (fun _ => ?_))

theorem ring_net_back.s2zle (a0 : RingNet) (a2 : Int) (l4885 : List Int) : ∀ (s0 : _), Le (Fuel.ring_net_back.s2 a0 a2 l4885 s0) (ring_net_back.s2 a0 a2 l4885 s0)
  | (m7088, l7089, b7092, x7094) => by
    simp only [Fuel.ring_net_back.s2, ring_net_back.s2]
    repeat' (first | with_reducible exact le_refl _ | with_reducible apply ring_net_back.s3zle | with_reducible apply ring_net_back.s4zle | with_reducible apply le_must | with_reducible apply le_cond | with_reducible apply le_out | with_reducible refine le_bind ?_ (fun _ => ?_) | with_reducible refine Fuel.le_iterF (fun _ => ?_))

theorem ring_net_back.s1zle (a0 : RingNet) (a2 : Int) : ∀ (s0 : _), Le (Fuel.ring_net_back.s1 a0 a2 s0) (ring_net_back.s1 a0 a2 s0)
  | (m4884, l4885, b4888) => by
    simp only [Fuel.ring_net_back.s1, ring_net_back.s1]
    repeat' (first | with_reducible exact le_refl _ | with_reducible apply ring_net_back.s2zle | with_reducible apply le_must | with_reducible apply le_cond | with_reducible apply le_out | with_reducible refine le_bind ?_ (fun _ => ?_) | with_reducible refine Fuel.le_iterF (fun _ => ?_))

theorem ring_net_back_le (a0 : RingNet) (a1 : Int) (a2 : Int) : Le (Fuel.ring_net_back a0 a1 a2) (ring_net_back a0 a1 a2) := by
  simp only [Fuel.ring_net_back, ring_net_back]
  repeat' (first | with_reducible exact le_refl _ | with_reducible apply ring_net_back.s1zle | with_reducible apply le_must | with_reducible apply le_cond | with_reducible apply le_out | with_reducible refine le_bind ?_ (fun _ => ?_) | with_reducible refine Fuel.le_iterF (fun _ => ?_))

theorem ring_Single_1zle (a0 : RingLink) (a1 : Int) : Le (Fuel.ring_Single_1 a0 a1) (ring_Single_1 a0 a1) := by
  simp only [Fuel.ring_Single_1, ring_Single_1]
  repeat' (first | with_reducible exact le_refl _ | with_reducible apply le_must | with_reducible apply le_cond | with_reducible apply le_out | with_reducible refine le_bind ?_ (fun _ => ?_) | with_reducible refine Fuel.le_iterF (fun _ => ?_))

theorem ring_net_edges_ring_Single_1.s1zle (a0 : RingNet) (a1 : List Int) : ∀ (s0 : _), Le (Fuel.ring_net_edges_ring_Single_1.s1 a0 a1 s0) (ring_net_edges_ring_Single_1.s1 a0 a1 s0)
  | (l309, x312) => by
    simp only [Fuel.ring_net_edges_ring_Single_1.s1, ring_net_edges_ring_Single_1.s1]
    repeat' (first | with_reducible exact le_refl _ | with_reducible apply ring_Single_1zle | with_reducible apply le_must | with_reducible apply le_cond | with_reducible apply le_out | with_reducible refine le_bind ?_ (fun _ => ?_) | with_reducible refine Fuel.le_iterF (fun _ => ?_) | with_reducible exact hY _ _ | with_reducible assumption | with_reducible intro _ _)

theorem ring_net_edges_ring_Single_1zle (a0 : RingNet) (a1 : List Int) : Le (Fuel.ring_net_edges_ring_Single_1 a0 a1) (ring_net_edges_ring_Single_1 a0 a1) := by
  simp only [Fuel.ring_net_edges_ring_Single_1, ring_net_edges_ring_Single_1]
  repeat' (first | with_reducible exact le_refl _ | with_reducible apply ring_net_edges_ring_Single_1.s1zle | with_reducible apply le_must | with_reducible apply le_cond | with_reducible apply le_out | with_reducible refine le_bind ?_ (fun _ => ?_) | with_reducible refine Fuel.le_iterF (fun _ => ?_) | with_reducible exact hY _ _ | with_reducible assumption | with_reducible intro _ _)

theorem ring_Single.j3zle (x1762 : Int) (l1826 : List Int) (b1829 : Bool) : Le (Fuel.ring_Single.j3 x1762 l1826 b1829) (ring_Single.j3 x1762 l1826 b1829) := by
  simp only [Fuel.ring_Single.j3, ring_Single.j3]
  repeat' (first | with_reducible exact le_refl _ | with_reducible apply le_must | with_reducible apply le_cond | with_reducible apply le_out | with_reducible refine le_bind ?_ (fun _ => ?_) | with_reducible refine Fuel.le_iterF (fun _ => ?_))

theorem ring_Single.j4zle (x1242 : Int) (l1757 : List Int) (b1760 : Bool) (x1762 : Int) (y1875 : (List Int × Bool)) (b1882 : Bool) : Le (Fuel.ring_Single.j4 x1242 l1757 b1760 x1762 y1875 b1882) (ring_Single.j4 x1242 l1757 b1760 x1762 y1875 b1882) := by
  simp only [Fuel.ring_Single.j4, ring_Single.j4]
  repeat' (first | with_reducible exact le_refl _ | with_reducible apply ring_Single.j3zle | with_reducible apply le_must | with_reducible apply le_cond | with_reducible apply le_out | with_reducible refine le_bind ?_ (fun _ => ?_) | with_reducible refine Fuel.le_iterF (fun _ => ?_))

theorem ring_Single.s2zle (a0 : Graph) (y20 : RingNet) (x1242 : Int) : ∀ (s0 : _), Le (Fuel.ring_Single.s2 a0 y20 x1242 s0) (ring_Single.s2 a0 y20 x1242 s0)
  | (l1757, b1760, x1762) => by
    simp only [Fuel.ring_Single.s2, ring_Single.s2]
    repeat' (first | with_reducible exact le_refl _ | with_reducible apply ring_net_back_le | with_reducible apply ring_Single.j3zle | with_reducible apply ring_Single.j4zle | with_reducible apply le_must | with_reducible apply le_cond | with_reducible apply le_out | with_reducible refine le_bind ?_ (fun _ => ?_) | with_reducible refine Fuel.le_iterF (fun _ => ?_))

theorem ring_Single.s1zle (a0 : Graph) (y20 : RingNet) : ∀ (s0 : _), Le (Fuel.ring_Single.s1 a0 y20 s0) (ring_Single.s1 a0 y20 s0)
  | (l1237, b1240, x1242) => by
    simp only [Fuel.ring_Single.s1, ring_Single.s1]
    repeat' (first | with_reducible exact le_refl _ | with_reducible apply ring_net_edges_ring_Single_1zle | with_reducible apply ring_Single.s2zle | with_reducible apply le_must | with_reducible apply le_cond | with_reducible apply le_out | with_reducible refine le_bind ?_ (fun _ => ?_) | with_reducible refine Fuel.le_iterF (fun _ => ?_) | with_reducible exact hY _ _ | with_reducible assumption | with_reducible intro _ _)

theorem ring_Single_le (a0 : Graph) (a1 : Int) (a2 : Int) : Le (Fuel.ring_Single a0 a1 a2) (ring_Single a0 a1 a2) := by
  simp only [Fuel.ring_Single, ring_Single]
  repeat' (first | with_reducible exact le_refl _ | with_reducible apply graph_Check_le | with_reducible apply ring_newNet_le | with_reducible apply ring_Single.s1zle | with_reducible apply le_must | with_reducible apply le_cond | with_reducible apply le_out | with_reducible refine le_bind ?_ (fun _ => ?_) | with_reducible refine Fuel.le_iterF (fun _ => ?_))

theorem assizelaw07zalive_le  : Le (Fuel.assizelaw07zalive) (assizelaw07zalive) := by
  simp only [Fuel.assizelaw07zalive, assizelaw07zalive]
  repeat' (first | with_reducible exact le_refl _ | with_reducible apply ring_Fits_le | with_reducible apply ring_Plain_le | with_reducible apply ring_Single_le | with_reducible apply le_must | with_reducible apply le_cond | with_reducible apply le_out | with_reducible refine le_bind ?_ (fun _ => ?_) | with_reducible refine Fuel.le_iterF (fun _ => ?_))

theorem assizelaw07zalive_true : assizelaw07zalive = some true := assizelaw07zalive_le _ (by decide +kernel)
end Go.Proofs.YtncapkloanfmnaaDoorT
