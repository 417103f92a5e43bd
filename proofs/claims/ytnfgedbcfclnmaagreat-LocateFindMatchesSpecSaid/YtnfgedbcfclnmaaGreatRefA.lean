/- The reference's smallest functions, walked. -/
import Derived.Test.YtnfgedbcfclnmaaGreatKit
set_option linter.unusedVariables false
set_option linter.unusedSimpArgs false
namespace Go.Proofs.YtnfgedbcfclnmaaGreat
open Go.RowKit

def inB (n lo hi : Int) : Bool := decide (lo ≤ n) && decide (n ≤ hi)

set_option maxHeartbeats 400000 in
theorem in_any (a b c : Int) (w : World) :
    Calls Tryz.prog 17 #[.int .i64 a, .int .i64 b, .int .i64 c] w fun e w' => e = .returned (.bool (inB a b c)) ∧ w = w' := by
  go_enter Tryz.func17, Tryz.ntmps17
  go_wp2
  all_goals
    go_ret
    refine ⟨congrArg (fun x => Ending.returned (Value.bool x)) ?_, rfl⟩
    simp only [inB]
    first | (simp; done) | (simp; omega)

theorem in_is {a b c : Int} {x : Bool} (h : inB a b c = x) (w : World) :
    Calls Tryz.prog 17 #[.int .i64 a, .int .i64 b, .int .i64 c] w fun e w' => e = .returned (.bool x) ∧ w = w' := h ▸ in_any a b c w

theorem at_any (a b : Int) (w : World) :
    Calls Tryz.prog 18 #[.int .i64 a, .int .i64 b] w fun e w' => e = .returned (.agg #[.int .i64 a, .int .i64 b]) ∧ Below w.heap.size w w' := by
  go_enter Tryz.func18, Tryz.ntmps18
  go_wp2
  exact bodyPost_ret (v := .agg #[.int .i64 a, .int .i64 b]) (by simp [results, Tryz.results18, go_sem]) rfl ⟨rfl, below_alloc _ _⟩

/-- The pixel of an image in column x and row y; white outside. -/
def pixF (W H : Int) (px : List Int) (x y : Int) : Int := if inB x 0 (W - 1) && inB y 0 (H - 1) then px.getD (y * W + x).toNat 0 else 255

/-- An image that is valid, and reads as px. -/
structure ImgOk (w : World) (W H : Int) (pv : Value) (px : List Int) : Prop where
  w1 : 1 ≤ W
  w2 : W ≤ 640
  h1 : 1 ≤ H
  h2 : H ≤ 640
  len : (px.length : Int) = W * H
  by1 : ∀ n ∈ px, 0 ≤ n ∧ n ≤ 255
  rd : Reads (Value.int .u8) w pv px

theorem ImgOk.below {w w' : World} {W H : Int} {pv : Value} {px : List Int} (h : ImgOk w W H pv px) (hb : Below w.heap.size w w') : ImgOk w' W H pv px :=
  { h with rd := h.rd.below hb }

theorem idx_lt {W H x y : Int} (h1 : 0 ≤ x) (h2 : x < W) (h3 : 0 ≤ y) (h4 : y < H) : 0 ≤ y * W + x ∧ y * W + x < W * H := by
  constructor
  · have := Int.mul_nonneg h3 (by omega : 0 ≤ W); omega
  · have : y * W + W ≤ H * W := by
      have := Int.mul_le_mul_of_nonneg_right (show y + 1 ≤ H by omega) (show 0 ≤ W by omega)
      rw [Int.add_mul] at this; omega
    rw [Int.mul_comm W H]; omega

set_option maxHeartbeats 400000 in
theorem pixel_any (W H x y : Int) (pv : Value) (px : List Int) (w : World) (h : ImgOk w W H pv px) :
    Calls Tryz.prog 54 #[.agg #[.int .i64 W, .int .i64 H, pv], .int .i64 x, .int .i64 y] w fun e w' => e = .returned (.int .u8 (pixF W H px x y)) ∧ Below w.heap.size w w' := by
  obtain ⟨h1, h2, h3, h4, hl, hby, hR⟩ := h
  cases hx : inB x 0 (W - 1)
  · have hf : pixF W H px x y = 255 := by simp [pixF, hx]
    rw [hf]; clear hf
    go_enter Tryz.func54, Tryz.ntmps54
    go_wp2_with (go_at_call 17; refine (in_is hx _).mono ?_; rintro e w' ⟨rfl, rfl⟩)
    go_ret
    exact ⟨rfl, below_alloc _ _⟩
  cases hy : inB y 0 (H - 1)
  · have hf : pixF W H px x y = 255 := by simp [pixF, hx, hy]
    rw [hf]; clear hf
    go_enter Tryz.func54, Tryz.ntmps54
    go_wp2_with (go_at_call 17; (first | (with_reducible refine (in_is hx _).mono ?_) | (with_reducible refine (in_is hy _).mono ?_)); rintro e w' ⟨rfl, rfl⟩)
    go_ret
    exact ⟨rfl, below_alloc _ _⟩
  have hx' := hx
  have hy' := hy
  simp only [inB, Bool.and_eq_true, decide_eq_true_eq] at hx' hy'
  obtain ⟨i0, i1⟩ := idx_lt (W := W) (H := H) hx'.1 (by omega) hy'.1 (by omega)
  have hlen : (y * W + x).toNat < px.length := by omega
  have hWH : W * H ≤ 409600 := by
    have := Int.mul_le_mul h2 h4 (by omega) (by omega); omega
  have hyW : 0 ≤ y * W := Int.mul_nonneg (by omega) (by omega)
  obtain ⟨n, hn⟩ : ∃ n, px.getD (y * W + x).toNat 0 = n := ⟨_, rfl⟩
  have hf : pixF W H px x y = n := by rw [pixF, hx, hy]; exact hn
  rw [hf]; clear hf
  obtain ⟨b, off, cap, rfl, hlc, hcm, hb, hc⟩ := hR.some (by omega)
  have hcell := hc _ _ (getD_some (d := 0) hlen)
  rw [hn] at hcell
  have hli : decide (y * W + x < (px.length : Int)) = true := by simp; omega
  clear hc hby hn hR
  have HL := Lib.hid hl; clear hl
  go_enter Tryz.func54, Tryz.ntmps54
  go_wp2_with (go_at_call 17; (first | (with_reducible refine (in_is hx _).mono ?_) | (with_reducible refine (in_is hy _).mono ?_)); rintro e w' ⟨rfl, rfl⟩)
  go_ret
  exact ⟨rfl, below_alloc _ _⟩

set_option maxHeartbeats 400000 in
theorem dark_any (W H x y : Int) (pv : Value) (px : List Int) (w : World) (h : ImgOk w W H pv px) :
    Calls Tryz.prog 61 #[.agg #[.int .i64 W, .int .i64 H, pv], .int .i64 x, .int .i64 y] w fun e w' => e = .returned (.bool (decide (pixF W H px x y < 128))) ∧ Below w.heap.size w w' := by
  have h' := h.below (below_alloc w (.cells #[.int .i64 W, .int .i64 H, pv] 24))
  go_enter Tryz.func61, Tryz.ntmps61
  go_wp2_with (go_at_call 54; refine (pixel_any W H x y pv px _ h').mono ?_; rintro e w' ⟨rfl, hb⟩)
  go_ret
  exact ⟨rfl, binto (below_alloc _ _) hb⟩

theorem at_exact (a b : Int) (w : World) :
    Calls Tryz.prog 18 #[.int .i64 a, .int .i64 b] w fun e w' => e = .returned (.agg #[.int .i64 a, .int .i64 b]) ∧ w.alloc (.cells #[.int .i64 a, .int .i64 b] 29) = w' := by
  go_enter Tryz.func18, Tryz.ntmps18
  go_wp2
  exact bodyPost_ret (v := .agg #[.int .i64 a, .int .i64 b]) (by simp [results, Tryz.results18, go_sem]) rfl ⟨rfl, rfl⟩

def imageFaultF (W H : Int) (n : Nat) : Int × Int :=
  if inB W 1 640 then if inB H 1 640 then if (n : Int) = W * H then (0, 0) else (9, -3) else (4, -2) else (4, -1)

set_option maxHeartbeats 400000 in
theorem imageFault_any (W H : Int) (a : Option Addr) (n cap : Nat) (w : World) :
    Calls Tryz.prog 5 #[.agg #[.int .i64 W, .int .i64 H, .slice a n cap]] w fun e w' => e = .returned (.agg #[.int .i64 (imageFaultF W H n).1, .int .i64 (imageFaultF W H n).2]) ∧ Below w.heap.size w w' := by
  cases hw : inB W 1 640
  · have hf : imageFaultF W H n = (4, -1) := by simp [imageFaultF, hw]
    rw [hf]; clear hf
    go_enter Tryz.func5, Tryz.ntmps5
    go_wp2_with (first | (go_at_call 17; (with_reducible refine (in_is hw _).mono ?_); rintro e w' ⟨rfl, rfl⟩) | (go_at_call 18; refine (at_exact _ _ _).mono ?_; rintro e w' ⟨rfl, rfl⟩))
    exact bodyPost_ret (v := .agg #[.int .i64 4, .int .i64 (-1)]) (by simp [results, Tryz.results5, go_sem]) rfl ⟨rfl, (by repeat (first | (with_reducible exact Below.refl _ _) | (with_reducible assumption) | ((with_reducible refine Below.setCell ?_ ?_ _); rotate_left; (focus (first | omega | (simp; done) | (simp; omega)))) | (with_reducible refine Below.drew ?_) | (with_reducible refine below_drewN ?_ _) | ((with_reducible refine Below.alloc ?_ ?_ _); rotate_left; (focus (first | omega | (simp; done) | (simp; omega))))))⟩
  cases hh : inB H 1 640
  · have hf : imageFaultF W H n = (4, -2) := by simp [imageFaultF, hw, hh]
    rw [hf]; clear hf
    go_enter Tryz.func5, Tryz.ntmps5
    go_wp2_with (first | (go_at_call 17; (first | (with_reducible refine (in_is hw _).mono ?_) | (with_reducible refine (in_is hh _).mono ?_)); rintro e w' ⟨rfl, rfl⟩) | (go_at_call 18; refine (at_exact _ _ _).mono ?_; rintro e w' ⟨rfl, rfl⟩))
    exact bodyPost_ret (v := .agg #[.int .i64 4, .int .i64 (-2)]) (by simp [results, Tryz.results5, go_sem]) rfl ⟨rfl, (by repeat (first | (with_reducible exact Below.refl _ _) | (with_reducible assumption) | ((with_reducible refine Below.setCell ?_ ?_ _); rotate_left; (focus (first | omega | (simp; done) | (simp; omega)))) | (with_reducible refine Below.drew ?_) | (with_reducible refine below_drewN ?_ _) | ((with_reducible refine Below.alloc ?_ ?_ _); rotate_left; (focus (first | omega | (simp; done) | (simp; omega))))))⟩
  have hw' := hw
  have hh' := hh
  simp only [inB, Bool.and_eq_true, decide_eq_true_eq] at hw' hh'
  have hWH : W * H ≤ 409600 := by
    have := Int.mul_le_mul hw'.2 hh'.2 (by omega) (by omega); omega
  have hWH0 : 0 ≤ W * H := Int.mul_nonneg (by omega) (by omega)
  by_cases hn : (n : Int) = W * H
  · have hf : imageFaultF W H n = (0, 0) := by simp [imageFaultF, hw, hh, hn]
    rw [hf]; clear hf
    have hd : ((n : Int) != W * H) = false := by simpa using hn
    clear hn
    go_enter Tryz.func5, Tryz.ntmps5
    go_wp2_with (first | (go_at_call 17; (first | (with_reducible refine (in_is hw _).mono ?_) | (with_reducible refine (in_is hh _).mono ?_)); rintro e w' ⟨rfl, rfl⟩) | (go_at_call 18; refine (at_exact _ _ _).mono ?_; rintro e w' ⟨rfl, rfl⟩))
    exact bodyPost_ret (v := .agg #[.int .i64 0, .int .i64 0]) (by simp [results, Tryz.results5, go_sem]) rfl ⟨rfl, (by repeat (first | (with_reducible exact Below.refl _ _) | (with_reducible assumption) | ((with_reducible refine Below.setCell ?_ ?_ _); rotate_left; (focus (first | omega | (simp; done) | (simp; omega)))) | (with_reducible refine Below.drew ?_) | (with_reducible refine below_drewN ?_ _) | ((with_reducible refine Below.alloc ?_ ?_ _); rotate_left; (focus (first | omega | (simp; done) | (simp; omega))))))⟩
  · have hf : imageFaultF W H n = (9, -3) := by simp [imageFaultF, hw, hh, hn]
    rw [hf]; clear hf
    have hd : ((n : Int) != W * H) = true := by simpa using hn
    clear hn
    go_enter Tryz.func5, Tryz.ntmps5
    go_wp2_with (first | (go_at_call 17; (first | (with_reducible refine (in_is hw _).mono ?_) | (with_reducible refine (in_is hh _).mono ?_)); rintro e w' ⟨rfl, rfl⟩) | (go_at_call 18; refine (at_exact _ _ _).mono ?_; rintro e w' ⟨rfl, rfl⟩))
    exact bodyPost_ret (v := .agg #[.int .i64 9, .int .i64 (-3)]) (by simp [results, Tryz.results5, go_sem]) rfl ⟨rfl, (by repeat (first | (with_reducible exact Below.refl _ _) | (with_reducible assumption) | ((with_reducible refine Below.setCell ?_ ?_ _); rotate_left; (focus (first | omega | (simp; done) | (simp; omega)))) | (with_reducible refine Below.drew ?_) | (with_reducible refine below_drewN ?_ _) | ((with_reducible refine Below.alloc ?_ ?_ _); rotate_left; (focus (first | omega | (simp; done) | (simp; omega))))))⟩

end Go.Proofs.YtnfgedbcfclnmaaGreat
