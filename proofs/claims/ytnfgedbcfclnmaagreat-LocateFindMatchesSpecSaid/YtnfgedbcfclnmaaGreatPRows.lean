/- locate.pageRows: the numbers of rows of pages. -/
import Derived.Test.YtnfgedbcfclnmaaGreatLeaf
import Derived.Test.YtnfgedbcfclnmaaGreatFilled
set_option linter.unusedVariables false
set_option linter.unusedSimpArgs false
namespace Go.Proofs.YtnfgedbcfclnmaaGreat
open Go.RowKit

set_option maxRecDepth 100000 in
set_option maxHeartbeats 1000000 in
theorem pageRows_any (w : World) : Calls Tryz.prog 35 #[] w (RetInts w [53, 85]) := by
  have hown0 : w.ownsRow w.heap.size 3 1 (.slice none 0 0) 0 [] := ⟨by simp, .inl ⟨rfl, rfl⟩⟩
  go_enter Tryz.func35, Tryz.ntmps35
  go_wp2_with fail
  generalize hW0 : World.alloc _ _ = W0
  have s0 : W0.heap.size = w.heap.size + 1 := by rw [← hW0]; simp
  have L0 : Blk W0 w.heap.size #[.int .i64 4, .int .i64 2] 3 := by rw [← hW0]; exact Blk.new _ _ _
  have hB0 : Below w.heap.size w W0 := by rw [← hW0]; exact below_alloc _ _
  go_loopw [1, 8] (fun v n wr => ∃ k : Nat, n = .int .i64 k ∧ k ≤ 2 ∧ Blk wr w.heap.size #[.int .i64 4, .int .i64 2] 3 ∧ wr.ownsRow (w.heap.size + 1) 3 1 v k (([53, 85] : List Int).take k |>.map (Value.int .i64)) ∧ Below w.heap.size w wr) (fun _ n _ => 2 - (intOf n).toNat)
  case atStart => exact ⟨0, rfl, by omega, L0, ⟨by simp, .inl ⟨rfl, rfl⟩⟩, hB0⟩
  case round =>
    obtain ⟨k, rfl, hk, hL, hown, hB⟩ := hrel
    obtain ⟨wa, rfl⟩ : ∃ wo : World, wo = wr := ⟨_, rfl⟩
    have hlt := hL.lt
    obtain ⟨l0, l1, lf⟩ := hL.c2
    have hk3 : k = 0 ∨ k = 1 ∨ k = 2 := by omega
    rcases hk3 with rfl | rfl | rfl
    · have hB2 := hB
      go_wp2_with (first | (go_at_call 68; refine (pRows4 _).mono ?_; rintro e w' ⟨rfl, rfl⟩) | (at_builtin; refine wp_app1 _ rfl _ _ 25 rfl (w.heap.size + 1) 3 (.int .i64 0) 1 8 Tryz.underlying25 Tryz.infoInt rfl (by decide) (by decide) _ _ _ rfl (((hown.alloc _).alloc _).alloc _) _ [.int .i64 53] rfl rfl (Blk.newAt _ _ (by simp)) (by simp [Value.oneCell']) (by omega) (by simp; omega) ?_; intro v' w4 hown4 hg4))
      have hbb : Below (w.heap.size + 1) wa w4 := ((((Below.refl (w.heap.size + 1) wa).alloc (by omega) _).alloc (by simp; omega) _).alloc (by simp; omega) _).grown hg4 (by simp; omega) (fun j hj => (hown.lt j hj).1)
      go_roundw
      case rel => exact ⟨1, rfl, by omega, hL.keep hbb (by omega), hown4, hB2.trans (hbb.mono (by omega))⟩
      case measure => simp [intOf]
    · have hB2 := hB
      go_wp2_with (first | (go_at_call 68; refine (pRows2 _).mono ?_; rintro e w' ⟨rfl, rfl⟩) | (at_builtin; refine wp_app1 _ rfl _ _ 25 rfl (w.heap.size + 1) 3 (.int .i64 0) 1 8 Tryz.underlying25 Tryz.infoInt rfl (by decide) (by decide) _ _ _ rfl (((hown.alloc _).alloc _).alloc _) _ [.int .i64 85] rfl rfl (Blk.newAt _ _ (by simp)) (by simp [Value.oneCell']) (by omega) (by simp; omega) ?_; intro v' w4 hown4 hg4))
      have hbb : Below (w.heap.size + 1) wa w4 := ((((Below.refl (w.heap.size + 1) wa).alloc (by omega) _).alloc (by simp; omega) _).alloc (by simp; omega) _).grown hg4 (by simp; omega) (fun j hj => (hown.lt j hj).1)
      go_roundw
      case rel => exact ⟨2, rfl, by omega, hL.keep hbb (by omega), hown4, hB2.trans (hbb.mono (by omega))⟩
      case measure => simp [intOf]
    · go_wp2_with fail
      go_ret
      exact ⟨_, rfl, own_weaken hown (by omega), hB⟩

end Go.Proofs.YtnfgedbcfclnmaaGreat
