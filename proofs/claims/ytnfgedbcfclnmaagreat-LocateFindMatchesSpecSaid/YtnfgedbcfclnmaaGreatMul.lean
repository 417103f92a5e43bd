/- bits.Mul of 1 and a small number. -/
import Derived.Test.YtnfgedbcfclnmaaGreatKit4
set_option linter.unusedVariables false
set_option linter.unusedSimpArgs false
namespace Go.Proofs.YtnfgedbcfclnmaaGreat
open Go.RowKit

set_option maxRecDepth 100000 in
set_option maxHeartbeats 1000000 in
theorem mul64_one (y : Int) (w : World) (h : 0 ≤ y ∧ y ≤ 1000000) : Calls Tryz.prog 87 #[.int .u64 1, .int .u64 y] w fun e w' => e = .returned (.tuple #[.int .u64 0, .int .u64 y]) ∧ w = w' := by
  obtain ⟨h1, h2⟩ := h
  have fy : bits .and .u64 y 4294967295 = y := by rw [and_low32 y h1 (by omega)]; omega
  have f1 : bits .and .u64 1 4294967295 = 1 := by rw [and_low32 1 (by omega) (by omega)]; omega
  have f0 : bits .and .u64 0 4294967295 = 0 := by rw [and_low32 0 (by omega) (by omega)]; omega
  have wy : IntKind.u64.wrap y = y := by rw [IntKind.wrap_u64]; omega
  have dy : y / 4294967296 = 0 := by omega
  have w0 : IntKind.u64.wrap 0 = 0 := by rw [IntKind.wrap_u64]; omega
  go_enter Tryz.func87, Tryz.ntmps87
  go_wp2
  go_ret2
  refine ⟨?_, rfl⟩
  simp [fy, f1, f0, wy, dy, w0]

set_option maxRecDepth 100000 in
set_option maxHeartbeats 1000000 in
theorem mul_one' (y : Int) (w : World) (h : 0 ≤ y ∧ y ≤ 1000000) : Calls Tryz.prog 69 #[.int .u64 1, .int .u64 y] w fun e w' => e = .returned (.tuple #[.int .u64 0, .int .u64 y]) ∧ w = w' := by
  go_enter Tryz.func69, Tryz.ntmps69
  go_wp2_with (go_at_call 87; refine (mul64_one y _ h).mono ?_; rintro e w' ⟨rfl, rfl⟩)
  go_ret2
  exact ⟨rfl, rfl⟩

end Go.Proofs.YtnfgedbcfclnmaaGreat
