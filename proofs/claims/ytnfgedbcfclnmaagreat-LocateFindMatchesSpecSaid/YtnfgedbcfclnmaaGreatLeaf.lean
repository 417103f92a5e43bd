/- Small functions that only compute: turns, levels, fractions, rounding, faults, full columns. -/
import Derived.Test.YtnfgedbcfclnmaaGreatScan
set_option linter.unusedVariables false
set_option linter.unusedSimpArgs false
namespace Go.Proofs.YtnfgedbcfclnmaaGreat
open Go.RowKit

theorem faultL_exact (a b : Int) (w : World) : Calls Tryz.prog 16 #[.int .i64 a, .int .i64 b] w fun e w' => e = .returned (.agg #[.int .i64 a, .int .i64 b]) ∧ w.alloc (.cells #[.int .i64 a, .int .i64 b] 29) = w' := by
  go_enter Tryz.func16, Tryz.ntmps16
  go_wp2
  exact bodyPost_ret (v := .agg #[.int .i64 a, .int .i64 b]) (by simp [results, Tryz.results16, go_sem]) rfl ⟨rfl, rfl⟩
theorem faultR_exact (a b : Int) (w : World) : Calls Tryz.prog 27 #[.int .i64 a, .int .i64 b] w fun e w' => e = .returned (.agg #[.int .i64 a, .int .i64 b]) ∧ w.alloc (.cells #[.int .i64 a, .int .i64 b] 29) = w' := by
  go_enter Tryz.func27, Tryz.ntmps27
  go_wp2
  exact bodyPost_ret (v := .agg #[.int .i64 a, .int .i64 b]) (by simp [results, Tryz.results27, go_sem]) rfl ⟨rfl, rfl⟩
theorem faultD_exact (a b : Int) (w : World) : Calls Tryz.prog 29 #[.int .i64 a, .int .i64 b] w fun e w' => e = .returned (.agg #[.int .i64 a, .int .i64 b]) ∧ w.alloc (.cells #[.int .i64 a, .int .i64 b] 29) = w' := by
  go_enter Tryz.func29, Tryz.ntmps29
  go_wp2
  exact bodyPost_ret (v := .agg #[.int .i64 a, .int .i64 b]) (by simp [results, Tryz.results29, go_sem]) rfl ⟨rfl, rfl⟩
theorem faultP_exact (a b : Int) (w : World) : Calls Tryz.prog 77 #[.int .i64 a, .int .i64 b] w fun e w' => e = .returned (.agg #[.int .i64 a, .int .i64 b]) ∧ w.alloc (.cells #[.int .i64 a, .int .i64 b] 29) = w' := by
  go_enter Tryz.func77, Tryz.ntmps77
  go_wp2
  exact bodyPost_ret (v := .agg #[.int .i64 a, .int .i64 b]) (by simp [results, Tryz.results77, go_sem]) rfl ⟨rfl, rfl⟩
theorem faultF_exact (a b : Int) (w : World) : Calls Tryz.prog 70 #[.int .i64 a, .int .i64 b] w fun e w' => e = .returned (.agg #[.int .i64 a, .int .i64 b]) ∧ w.alloc (.cells #[.int .i64 a, .int .i64 b] 29) = w' := by
  go_enter Tryz.func70, Tryz.ntmps70
  go_wp2
  exact bodyPost_ret (v := .agg #[.int .i64 a, .int .i64 b]) (by simp [results, Tryz.results70, go_sem]) rfl ⟨rfl, rfl⟩

/-- Rows of a page. -/
def rowsOfF (l : Int) : Int := if l = 2 then 85 else if l = 4 then 53 else 0
def levelsOfF (r : Int) : Int := if r = 53 then 4 else 2

set_option maxHeartbeats 400000 in
theorem rowsOf_any (l : Int) (w : World) : Calls Tryz.prog 84 #[.int .i64 l] w fun e w' => e = .returned (.int .i64 (rowsOfF l)) ∧ w = w' := by
  by_cases h2 : l = 2
  · subst h2
    go_enter Tryz.func84, Tryz.ntmps84
    go_wp2; go_ret; exact ⟨rfl, rfl⟩
  by_cases h4 : l = 4
  · subst h4
    go_enter Tryz.func84, Tryz.ntmps84
    go_wp2; go_ret; exact ⟨rfl, rfl⟩
  have e : rowsOfF l = 0 := by simp [rowsOfF, h2, h4]
  rw [e]
  have b2 : (l == 2) = false := by simpa using h2
  have b4 : (l == 4) = false := by simpa using h4
  clear h2 h4 e
  go_enter Tryz.func84, Tryz.ntmps84
  go_wp2; go_ret; exact ⟨rfl, rfl⟩

set_option maxHeartbeats 400000 in
theorem levelsOf_any (l : Int) (w : World) : Calls Tryz.prog 63 #[.int .i64 l] w fun e w' => e = .returned (.int .i64 (levelsOfF l)) ∧ w = w' := by
  by_cases h2 : l = 53
  · subst h2
    go_enter Tryz.func63, Tryz.ntmps63
    go_wp2; go_ret; exact ⟨rfl, rfl⟩
  have e : levelsOfF l = 2 := by simp [levelsOfF, h2]
  rw [e]
  have b2 : (l == 53) = false := by simpa using h2
  clear h2 e
  go_enter Tryz.func63, Tryz.ntmps63
  go_wp2; go_ret; exact ⟨rfl, rfl⟩

theorem pvalid2 (w : World) : Calls Tryz.prog 76 #[.int .i64 2] w fun e w' => e = .returned (.bool true) ∧ w = w' := by
  go_enter Tryz.func76, Tryz.ntmps76
  go_wp2; go_ret; exact ⟨rfl, rfl⟩
theorem pvalid4 (w : World) : Calls Tryz.prog 76 #[.int .i64 4] w fun e w' => e = .returned (.bool true) ∧ w = w' := by
  go_enter Tryz.func76, Tryz.ntmps76
  go_wp2; go_ret; exact ⟨rfl, rfl⟩
theorem prows2 (w : World) : Calls Tryz.prog 78 #[.int .i64 2] w fun e w' => e = .returned (.int .i64 85) ∧ w = w' := by
  go_enter Tryz.func78, Tryz.ntmps78
  go_wp2; go_ret; exact ⟨rfl, rfl⟩
theorem prows4 (w : World) : Calls Tryz.prog 78 #[.int .i64 4] w fun e w' => e = .returned (.int .i64 53) ∧ w = w' := by
  go_enter Tryz.func78, Tryz.ntmps78
  go_wp2; go_ret; exact ⟨rfl, rfl⟩

theorem pRows2 (w : World) : Calls Tryz.prog 68 #[.int .i64 2] w fun e w' => e = .returned (.tuple #[.int .i64 85, .agg #[.int .i64 0, .int .i64 0]]) ∧ w.alloc (.cells #[.int .i64 0, .int .i64 0] 29) = w' := by
  go_enter Tryz.func68, Tryz.ntmps68
  go_wp2_with (first | (go_at_call 76; refine (pvalid2 _).mono ?_; rintro e w' ⟨rfl, rfl⟩) | (go_at_call 78; refine (prows2 _).mono ?_; rintro e w' ⟨rfl, rfl⟩))
  exact bodyPost_ret (v := .tuple #[.int .i64 85, .agg #[.int .i64 0, .int .i64 0]]) (by simp [results, Tryz.results68, go_sem]) rfl ⟨rfl, by simp [go_sem]⟩
theorem pRows4 (w : World) : Calls Tryz.prog 68 #[.int .i64 4] w fun e w' => e = .returned (.tuple #[.int .i64 53, .agg #[.int .i64 0, .int .i64 0]]) ∧ w.alloc (.cells #[.int .i64 0, .int .i64 0] 29) = w' := by
  go_enter Tryz.func68, Tryz.ntmps68
  go_wp2_with (first | (go_at_call 76; refine (pvalid4 _).mono ?_; rintro e w' ⟨rfl, rfl⟩) | (go_at_call 78; refine (prows4 _).mono ?_; rintro e w' ⟨rfl, rfl⟩))
  exact bodyPost_ret (v := .tuple #[.int .i64 53, .agg #[.int .i64 0, .int .i64 0]]) (by simp [results, Tryz.results68, go_sem]) rfl ⟨rfl, by simp [go_sem]⟩

theorem validScale_any (s : Int) (w : World) : Calls Tryz.prog 43 #[.int .i64 s] w fun e w' => e = .returned (.bool (inB s 3 6)) ∧ w = w' := by
  go_enter Tryz.func43, Tryz.ntmps43
  go_wp2
  all_goals
    go_ret
    refine ⟨ret_bool ?_, rfl⟩
    simp only [inB]
    first | (simp; done) | (simp; omega)
theorem validTurn_any (s : Int) (w : World) : Calls Tryz.prog 28 #[.int .i64 s] w fun e w' => e = .returned (.bool (inB s 0 7)) ∧ w = w' := by
  have hin : inB s 0 7 = (decide (0 ≤ s) && decide (s < 8)) := by
    rw [Bool.eq_iff_iff]; simp [inB]; omega
  rw [hin]
  clear hin
  go_enter Tryz.func28, Tryz.ntmps28
  go_wp2
  all_goals
    go_ret
    refine ⟨ret_bool ?_, rfl⟩
    first | (simp; done) | (simp; omega)

/-- Compose and invert turns. -/
def compF (s t : Int) : Int := (s / 4 + t / 4) % 2 * 4 + ((if 4 ≤ t then 4 - s % 4 else s) + t) % 4
def invF (t : Int) : Int := if t = 1 then 3 else if t = 3 then 1 else t

set_option maxHeartbeats 400000 in
theorem compose_any (s t : Int) (w : World) (h : 0 ≤ s ∧ s < 8) (k : 0 ≤ t ∧ t < 8) : Calls Tryz.prog 30 #[.int .i64 s, .int .i64 t] w fun e w' => e = .returned (.int .i64 (compF s t)) ∧ w = w' := by
  obtain ⟨h1, h2⟩ := h
  obtain ⟨k1, k2⟩ := k
  by_cases hc : 4 ≤ t
  · go_enter Tryz.func30, Tryz.ntmps30
    go_wp2
    go_ret
    exact ⟨ret_int (by simp [compF, hc]), rfl⟩
  · go_enter Tryz.func30, Tryz.ntmps30
    go_wp2
    go_ret
    exact ⟨ret_int (by unfold compF; rw [if_neg (by omega)]), rfl⟩


theorem inv_zero {t : Int} (h : 0 ≤ t ∧ t < 8) : compF t (invF t) = 0 := by
  have : t = 0 ∨ t = 1 ∨ t = 2 ∨ t = 3 ∨ t = 4 ∨ t = 5 ∨ t = 6 ∨ t = 7 := by omega
  rcases this with rfl | rfl | rfl | rfl | rfl | rfl | rfl | rfl <;> decide
theorem inv_rng {t : Int} (h : 0 ≤ t ∧ t < 8) : 0 ≤ invF t ∧ invF t < 8 := by
  unfold invF; split <;> (try split) <;> omega
theorem inv_least {t o : Int} (h : 0 ≤ t ∧ t < 8) (ho : 0 ≤ o) (ho' : o < invF t) : (compF t o != 0) = true := by
  have := (inv_rng h).2
  have h1 : t = 0 ∨ t = 1 ∨ t = 2 ∨ t = 3 ∨ t = 4 ∨ t = 5 ∨ t = 6 ∨ t = 7 := by omega
  have h2 : o = 0 ∨ o = 1 ∨ o = 2 ∨ o = 3 ∨ o = 4 ∨ o = 5 ∨ o = 6 ∨ o = 7 := by omega
  rcases h1 with rfl | rfl | rfl | rfl | rfl | rfl | rfl | rfl <;> rcases h2 with rfl | rfl | rfl | rfl | rfl | rfl | rfl | rfl <;> first | decide | (exfalso; revert ho'; decide)

set_option maxHeartbeats 400000 in
theorem inverse_yes (t : Int) (w : World) (h : 0 ≤ t ∧ t < 8) : Calls Tryz.prog 11 #[.int .i64 t] w fun e w' => e = .returned (.tuple #[.int .i64 (invF t), .agg #[.int .i64 0, .int .i64 0]]) ∧ Below w.heap.size w w' := by
  have ht : inB t 0 7 = true := by simp [inB]; omega
  have HT := validTurn_any t
  rw [ht] at HT
  have HT := Lib.hid HT
  obtain ⟨i1, i2⟩ := inv_rng h
  go_enter Tryz.func11, Tryz.ntmps11
  go_wp2_with (go_at_call 28; refine (HT.out _).mono ?_; rintro e w' ⟨rfl, rfl⟩)
  go_loop [4] (fun o => ∃ k : Int, o = .int .i64 k ∧ 0 ≤ k ∧ k ≤ invF t) (fun o => (8 - intOf o).toNat)
  case atStart => exact ⟨0, rfl, by omega, by omega⟩
  case round =>
    obtain ⟨k, rfl, hk0, hk1⟩ := hrel
    by_cases hk : k = invF t
    · have hz := inv_zero h
      rw [← hk] at hz
      have hz' : (compF t k != 0) = false := by simpa using hz
      have HK := Lib.hid hk
      clear hz hk
      go_wp2_with (go_at_call 30; refine (compose_any _ _ _ h ⟨by omega, by omega⟩).mono ?_; rintro e w' ⟨rfl, rfl⟩)
      exact bodyPost_ret (v := .tuple #[.int .i64 k, .agg #[.int .i64 0, .int .i64 0]]) (by simp [results, Tryz.results11, go_sem]) rfl ⟨by rw [HK.out], (by repeat (first | (with_reducible exact Below.refl _ _) | (with_reducible assumption) | ((with_reducible refine Below.setCell ?_ ?_ _); rotate_left; (focus (first | omega | (simp; done) | (simp; omega)))) | (with_reducible refine Below.drew ?_) | (with_reducible refine below_drewN ?_ _) | ((with_reducible refine Below.alloc ?_ ?_ _); rotate_left; (focus (first | omega | (simp; done) | (simp; omega))))))⟩
    · have hz' := inv_least h hk0 (by omega : k < invF t)
      go_wp2_with (go_at_call 30; refine (compose_any _ _ _ h ⟨by omega, by omega⟩).mono ?_; rintro e w' ⟨rfl, rfl⟩)
      go_round
      case rel => exact ⟨_, rfl, by omega, by omega⟩
      case measure => simp [intOf]; omega

theorem inverse_no (t : Int) (w : World) (h : inB t 0 7 = false) : Calls Tryz.prog 11 #[.int .i64 t] w fun e w' => e = .returned (.tuple #[.int .i64 0, .agg #[.int .i64 4, .int .i64 (-1)]]) ∧ Below w.heap.size w w' := by
  have HT := validTurn_any t
  rw [h] at HT
  have HT := Lib.hid HT
  go_enter Tryz.func11, Tryz.ntmps11
  go_wp2_with (first | (go_at_call 28; refine (HT.out _).mono ?_; rintro e w' ⟨rfl, rfl⟩) | (go_at_call 29; refine (faultD_exact _ _ _).mono ?_; rintro e w' ⟨rfl, rfl⟩))
  exact bodyPost_ret (v := .tuple #[.int .i64 0, .agg #[.int .i64 4, .int .i64 (-1)]]) (by simp [results, Tryz.results11, go_sem]) rfl ⟨rfl, (by repeat (first | (with_reducible exact Below.refl _ _) | (with_reducible assumption) | ((with_reducible refine Below.setCell ?_ ?_ _); rotate_left; (focus (first | omega | (simp; done) | (simp; omega)))) | (with_reducible refine Below.drew ?_) | (with_reducible refine below_drewN ?_ _) | ((with_reducible refine Below.alloc ?_ ?_ _); rotate_left; (focus (first | omega | (simp; done) | (simp; omega))))))⟩

/-! ### full columns -/
def fullB (r : Int × Int × Int × Int) (s R : Int) : Bool := decide (0 ≤ r.1) && (r.2.1 - r.1 + 1 == R * s) && decide (3 * s ≤ r.2.2.1) && decide (3 * s ≤ r.2.2.2)

/-- Bounds of the numbers of a column. -/
def StB (r : Int × Int × Int × Int) : Prop := -1 ≤ r.1 ∧ r.1 ≤ 640 ∧ -1 ≤ r.2.1 ∧ r.2.1 ≤ 640 ∧ 0 ≤ r.2.2.1 ∧ r.2.2.1 ≤ 641 ∧ 0 ≤ r.2.2.2 ∧ r.2.2.2 ≤ 641

theorem StretchIs.bounds {W H : Int} {px : List Int} {x : Int} {r : Int × Int × Int × Int} (h : StretchIs (darkB W H px x) r) (hH : H ≤ 640) : StB r := by
  have inn : ∀ y, darkB W H px x y = true → 0 ≤ y ∧ y < H := fun y hy => by
    by_cases g : 0 ≤ y ∧ y < H
    · exact g
    · rw [darkB_out g] at hy; cases hy
  rcases h with ⟨-, rfl⟩ | ⟨a1, a2, a3, a4, a5, a6, a7, a8, a9, a10⟩
  · exact ⟨by decide, by decide, by decide, by decide, by decide, by decide, by decide, by decide⟩
  · have g1 := inn _ a1
    have g2 := inn _ a3
    refine ⟨by omega, by omega, by omega, by omega, a5, ?_, a8, ?_⟩
    · rcases Int.lt_or_le 641 r.2.2.1 with g | g
      · have := inn _ (a6 (r.1 + 641) (by omega) (by omega)); omega
      · exact g
    · rcases Int.lt_or_le 641 r.2.2.2 with g | g
      · have := inn _ (a9 (r.2.1 - 641) (by omega) (by omega)); omega
      · exact g

theorem sR_bound {s R : Int} (hs : 0 ≤ s ∧ s ≤ 6) (hR : 0 ≤ R ∧ R ≤ 85) : 0 ≤ R * s ∧ R * s ≤ 510 := by
  refine ⟨Int.mul_nonneg hR.1 hs.1, ?_⟩
  have := Int.mul_le_mul hR.2 hs.2 hs.1 (by omega); omega

set_option maxHeartbeats 800000 in
theorem full_any (r : Int × Int × Int × Int) (s R : Int) (w : World) (hr : StB r) (hs : 0 ≤ s ∧ s ≤ 6) (hR : 0 ≤ R ∧ R ≤ 85) :
    Calls Tryz.prog 58 #[.agg #[.int .i64 r.1, .int .i64 r.2.1, .int .i64 r.2.2.1, .int .i64 r.2.2.2], .int .i64 s, .int .i64 R] w fun e w' => e = .returned (.bool (fullB r s R)) ∧ Below w.heap.size w w' := by
  obtain ⟨a, b, u, l⟩ := r
  obtain ⟨r1, r2, r3, r4, r5, r6, r7, r8⟩ := hr
  obtain ⟨g1, g2⟩ := sR_bound hs hR
  obtain ⟨s1, s2⟩ := hs
  dsimp only at *
  go_enter Tryz.func58, Tryz.ntmps58
  go_wp2
  all_goals
    go_ret
    refine ⟨ret_bool ?_, below_alloc _ _⟩
    simp only [fullB]
    first | (simp [*]; done) | (simp [*]; omega)

set_option maxHeartbeats 800000 in
theorem pfull_any (r : Int × Int × Int × Int) (s R : Int) (w : World) (hr : StB r) (hs : 0 ≤ s ∧ s ≤ 6) (hR : 0 ≤ R ∧ R ≤ 85) :
    Calls Tryz.prog 36 #[.agg #[.int .i64 (scanOf r).1, .int .i64 (scanOf r).2.1, .int .i64 (scanOf r).2.2.1, .int .i64 (scanOf r).2.2.2], .int .i64 s, .int .i64 R] w fun e w' => e = .returned (.bool (fullB r s R)) ∧ Below w.heap.size w w' := by
  obtain ⟨a, b, u, l⟩ := r
  obtain ⟨r1, r2, r3, r4, r5, r6, r7, r8⟩ := hr
  obtain ⟨g1, g2⟩ := sR_bound hs hR
  obtain ⟨s1, s2⟩ := hs
  dsimp only at *
  by_cases ha : a = -1
  · subst ha
    have e : scanOf (-1, b, u, l) = (-1, 0, 0, 0) := by simp [scanOf]
    have e2 : fullB (-1, b, u, l) s R = false := by simp [fullB]
    rw [e, e2]
    clear e e2
    go_enter Tryz.func36, Tryz.ntmps36
    go_wp2
    go_ret
    exact ⟨rfl, below_alloc _ _⟩
  · have e : scanOf (a, b, u, l) = (a, b, u, l) := by simp [scanOf, ha]
    rw [e]
    have hb : (a != -1) = true := by simpa using ha
    have ha' : 0 ≤ a := by omega
    clear e ha
    go_enter Tryz.func36, Tryz.ntmps36
    go_wp2
    all_goals
      go_ret
      refine ⟨ret_bool ?_, below_alloc _ _⟩
      simp only [fullB]
      first | (simp [*]; done) | (simp [*]; omega)

/-- The top of a column that is not full. -/
def topF (r : Int × Int × Int × Int) (s R : Int) : Int :=
  if r.1 < 0 then -1 else if 3 * s ≤ r.2.2.1 ∧ r.2.2.2 < 3 * s then r.1 else if 3 * s ≤ r.2.2.2 ∧ r.2.2.1 < 3 * s ∧ 0 ≤ r.2.1 - R * s + 1 then r.2.1 - R * s + 1 else -1

theorem topF_no {b u l s R : Int} : topF (-1, b, u, l) s R = -1 := by simp [topF]

set_option maxHeartbeats 1000000 in
theorem top_any (r : Int × Int × Int × Int) (s R : Int) (w : World) (hr : StB r) (hs : 0 ≤ s ∧ s ≤ 6) (hR : 0 ≤ R ∧ R ≤ 85) :
    Calls Tryz.prog 40 #[.agg #[.int .i64 (scanOf r).1, .int .i64 (scanOf r).2.1, .int .i64 (scanOf r).2.2.1, .int .i64 (scanOf r).2.2.2], .int .i64 s, .int .i64 R] w fun e w' => e = .returned (.int .i64 (topF r s R)) ∧ Below w.heap.size w w' := by
  obtain ⟨a, b, u, l⟩ := r
  obtain ⟨r1, r2, r3, r4, r5, r6, r7, r8⟩ := hr
  obtain ⟨g1, g2⟩ := sR_bound hs hR
  obtain ⟨s1, s2⟩ := hs
  dsimp only at *
  by_cases ha : a = -1
  · subst ha
    have e : scanOf (-1, b, u, l) = (-1, 0, 0, 0) := by simp [scanOf]
    rw [e, topF_no]
    clear e
    go_enter Tryz.func40, Tryz.ntmps40
    go_wp2
    go_ret
    exact ⟨rfl, below_alloc _ _⟩
  · have e : scanOf (a, b, u, l) = (a, b, u, l) := by simp [scanOf, ha]
    rw [e]
    have hb : (a == -1) = false := by simpa using ha
    have ha' : 0 ≤ a := by omega
    clear e ha
    go_enter Tryz.func40, Tryz.ntmps40
    go_wp2_with fail
    go_quiet (fail)
    by_cases h1 : 3 * s ≤ u <;> by_cases h2 : 3 * s ≤ l
    all_goals go_wp2
    all_goals
      go_ret
      refine ⟨ret_int ?_, (by repeat (first | (with_reducible exact Below.refl _ _) | (with_reducible assumption) | ((with_reducible refine Below.setCell ?_ ?_ _); rotate_left; (focus (first | omega | (simp; done) | (simp; omega)))) | (with_reducible refine Below.drew ?_) | (with_reducible refine below_drewN ?_ _) | ((with_reducible refine Below.alloc ?_ ?_ _); rotate_left; (focus (first | omega | (simp; done) | (simp; omega))))))⟩
      simp only [topF]
      rw [if_neg (by omega)]
      repeat' (first | omega | split)

end Go.Proofs.YtnfgedbcfclnmaaGreat
