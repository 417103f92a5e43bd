/- LocateColumnsMatchesSpec answers true. -/
import Derived.Test.YtnfgedbcfclnmaaSearched
import Derived.Test.YtnfgedbcfclnmaaTopsW
set_option linter.unusedVariables false
set_option linter.unusedSimpArgs false
namespace Go.Proofs.Ytnfgedbcfclnmaa
open Go.RowKit

theorem imageFault_cases (W H : Int) (n : Nat) : imageFaultF W H n = (0, 0) ∨ imageFaultF W H n = (4, -1) ∨ imageFaultF W H n = (4, -2) ∨ imageFaultF W H n = (9, -3) := by
  unfold imageFaultF
  repeat' split
  all_goals simp
theorem imageFault_ok {W H : Int} {n : Nat} (h : imageFaultF W H n = (0, 0)) : (1 ≤ W ∧ W ≤ 640) ∧ (1 ≤ H ∧ H ≤ 640) ∧ (n : Int) = W * H := by
  unfold imageFaultF at h
  by_cases a : inB W 1 640 = true
  · rw [if_pos a] at h
    by_cases b : inB H 1 640 = true
    · rw [if_pos b] at h
      by_cases c : (n : Int) = W * H
      · simp only [inB, Bool.and_eq_true, decide_eq_true_eq] at a b
        exact ⟨a, b, c⟩
      · rw [if_neg c] at h; cases h
    · rw [if_neg b] at h; cases h
  · rw [if_neg a] at h; cases h

set_option maxRecDepth 100000 in
set_option maxHeartbeats 2000000 in
theorem columns_bad1 (W H : Int) (a : Option Addr) (np cp : Nat) (w : World) (h : imageFaultF W H np = (4, -1)) :
    Calls Try.prog 7 #[.agg #[.int .i64 W, .int .i64 H, .slice a np cp]] w fun e w' => e = .returned (.tuple #[.slice none 0 0, .int .i64 0, .int .i64 0, .agg #[.int .i64 4, .int .i64 (-1)]]) ∧ Below w.heap.size w w' := by
  have hV := validate_any W H a np cp
  rw [h] at hV
  have hV := Lib.hid hV
  clear h
  go_enter Try.func7, Try.ntmps7
  go_wp2_with fail
  generalize hW0 : World.alloc (World.alloc w _) _ = W0
  have R0 : Blk W0 (w.heap.size + 1) #[.int .i64 0, .int .i64 0] 27 := by rw [← hW0]; exact Blk.newAt _ _ (by simp)
  have hB0 : Below w.heap.size w W0 := by rw [← hW0]; exact (by repeat (first | (with_reducible exact Below.refl _ _) | (with_reducible assumption) | ((with_reducible refine Below.setCell ?_ ?_ _); rotate_left; (focus (first | omega | (simp; done) | (simp; omega)))) | (with_reducible refine Below.drew ?_) | (with_reducible refine below_drewN ?_ _) | ((with_reducible refine Below.alloc ?_ ?_ _); rotate_left; (focus (first | omega | (simp; done) | (simp; omega))))))
  clear hW0
  refine (hV.out W0).mono ?_
  rintro e w1 ⟨rfl, hb1⟩
  have R1 := R0.keep hb1 R0.lt
  have hB1 := binto hB0 hb1
  have hfl := R1.lt
  clear R0 hB0 hb1 hV
  dsimp only
  go_wp2_with fail
  generalize hW2 : World.alloc w1 _ = W2
  have D2 : Blk W2 w1.heap.size #[.int .i64 4, .int .i64 (-1)] 27 := by rw [← hW2]; exact Blk.new _ _ _
  have R2 : Blk W2 (w.heap.size + 1) #[.int .i64 0, .int .i64 0] 27 := by rw [← hW2]; exact R1.alloc _
  have hB2 : Below w.heap.size w W2 := by rw [← hW2]; exact hB1.trans (below_alloc' hB1.size _)
  obtain ⟨r0, r1, rf, rlt⟩ := R2.d2
  obtain ⟨d0, d1, df, dlt⟩ := D2.d2
  have hne1 : ¬ w.heap.size + 1 = w1.heap.size := by omega
  have hne2 : ¬ w1.heap.size = w.heap.size + 1 := by omega
  clear hW2 R1 R2 D2 hB1
  go_region
  all_goals go_wp2_with fail
  all_goals exact bodyPost_ret (v := .tuple #[.slice none 0 0, .int .i64 0, .int .i64 0, .agg #[.int .i64 4, .int .i64 (-1)]]) (by simp [results, Try.results7, go_sem, r0, r1, rf, rlt]) rfl ⟨rfl, (by repeat (first | (with_reducible exact Below.refl _ _) | (with_reducible assumption) | ((with_reducible refine Below.setCell ?_ ?_ _); rotate_left; (focus (first | omega | (simp; done) | (simp; omega)))) | (with_reducible refine Below.drew ?_) | (with_reducible refine below_drewN ?_ _) | ((with_reducible refine Below.alloc ?_ ?_ _); rotate_left; (focus (first | omega | (simp; done) | (simp; omega))))))⟩

set_option maxRecDepth 100000 in
set_option maxHeartbeats 2000000 in
theorem columns_bad2 (W H : Int) (a : Option Addr) (np cp : Nat) (w : World) (h : imageFaultF W H np = (4, -2)) :
    Calls Try.prog 7 #[.agg #[.int .i64 W, .int .i64 H, .slice a np cp]] w fun e w' => e = .returned (.tuple #[.slice none 0 0, .int .i64 0, .int .i64 0, .agg #[.int .i64 4, .int .i64 (-2)]]) ∧ Below w.heap.size w w' := by
  have hV := validate_any W H a np cp
  rw [h] at hV
  have hV := Lib.hid hV
  clear h
  go_enter Try.func7, Try.ntmps7
  go_wp2_with fail
  generalize hW0 : World.alloc (World.alloc w _) _ = W0
  have R0 : Blk W0 (w.heap.size + 1) #[.int .i64 0, .int .i64 0] 27 := by rw [← hW0]; exact Blk.newAt _ _ (by simp)
  have hB0 : Below w.heap.size w W0 := by rw [← hW0]; exact (by repeat (first | (with_reducible exact Below.refl _ _) | (with_reducible assumption) | ((with_reducible refine Below.setCell ?_ ?_ _); rotate_left; (focus (first | omega | (simp; done) | (simp; omega)))) | (with_reducible refine Below.drew ?_) | (with_reducible refine below_drewN ?_ _) | ((with_reducible refine Below.alloc ?_ ?_ _); rotate_left; (focus (first | omega | (simp; done) | (simp; omega))))))
  clear hW0
  refine (hV.out W0).mono ?_
  rintro e w1 ⟨rfl, hb1⟩
  have R1 := R0.keep hb1 R0.lt
  have hB1 := binto hB0 hb1
  have hfl := R1.lt
  clear R0 hB0 hb1 hV
  dsimp only
  go_wp2_with fail
  generalize hW2 : World.alloc w1 _ = W2
  have D2 : Blk W2 w1.heap.size #[.int .i64 4, .int .i64 (-2)] 27 := by rw [← hW2]; exact Blk.new _ _ _
  have R2 : Blk W2 (w.heap.size + 1) #[.int .i64 0, .int .i64 0] 27 := by rw [← hW2]; exact R1.alloc _
  have hB2 : Below w.heap.size w W2 := by rw [← hW2]; exact hB1.trans (below_alloc' hB1.size _)
  obtain ⟨r0, r1, rf, rlt⟩ := R2.d2
  obtain ⟨d0, d1, df, dlt⟩ := D2.d2
  have hne1 : ¬ w.heap.size + 1 = w1.heap.size := by omega
  have hne2 : ¬ w1.heap.size = w.heap.size + 1 := by omega
  clear hW2 R1 R2 D2 hB1
  go_region
  all_goals go_wp2_with fail
  all_goals exact bodyPost_ret (v := .tuple #[.slice none 0 0, .int .i64 0, .int .i64 0, .agg #[.int .i64 4, .int .i64 (-2)]]) (by simp [results, Try.results7, go_sem, r0, r1, rf, rlt]) rfl ⟨rfl, (by repeat (first | (with_reducible exact Below.refl _ _) | (with_reducible assumption) | ((with_reducible refine Below.setCell ?_ ?_ _); rotate_left; (focus (first | omega | (simp; done) | (simp; omega)))) | (with_reducible refine Below.drew ?_) | (with_reducible refine below_drewN ?_ _) | ((with_reducible refine Below.alloc ?_ ?_ _); rotate_left; (focus (first | omega | (simp; done) | (simp; omega))))))⟩

set_option maxRecDepth 100000 in
set_option maxHeartbeats 2000000 in
theorem columns_bad3 (W H : Int) (a : Option Addr) (np cp : Nat) (w : World) (h : imageFaultF W H np = (9, -3)) :
    Calls Try.prog 7 #[.agg #[.int .i64 W, .int .i64 H, .slice a np cp]] w fun e w' => e = .returned (.tuple #[.slice none 0 0, .int .i64 0, .int .i64 0, .agg #[.int .i64 9, .int .i64 (-3)]]) ∧ Below w.heap.size w w' := by
  have hV := validate_any W H a np cp
  rw [h] at hV
  have hV := Lib.hid hV
  clear h
  go_enter Try.func7, Try.ntmps7
  go_wp2_with fail
  generalize hW0 : World.alloc (World.alloc w _) _ = W0
  have R0 : Blk W0 (w.heap.size + 1) #[.int .i64 0, .int .i64 0] 27 := by rw [← hW0]; exact Blk.newAt _ _ (by simp)
  have hB0 : Below w.heap.size w W0 := by rw [← hW0]; exact (by repeat (first | (with_reducible exact Below.refl _ _) | (with_reducible assumption) | ((with_reducible refine Below.setCell ?_ ?_ _); rotate_left; (focus (first | omega | (simp; done) | (simp; omega)))) | (with_reducible refine Below.drew ?_) | (with_reducible refine below_drewN ?_ _) | ((with_reducible refine Below.alloc ?_ ?_ _); rotate_left; (focus (first | omega | (simp; done) | (simp; omega))))))
  clear hW0
  refine (hV.out W0).mono ?_
  rintro e w1 ⟨rfl, hb1⟩
  have R1 := R0.keep hb1 R0.lt
  have hB1 := binto hB0 hb1
  have hfl := R1.lt
  clear R0 hB0 hb1 hV
  dsimp only
  go_wp2_with fail
  generalize hW2 : World.alloc w1 _ = W2
  have D2 : Blk W2 w1.heap.size #[.int .i64 9, .int .i64 (-3)] 27 := by rw [← hW2]; exact Blk.new _ _ _
  have R2 : Blk W2 (w.heap.size + 1) #[.int .i64 0, .int .i64 0] 27 := by rw [← hW2]; exact R1.alloc _
  have hB2 : Below w.heap.size w W2 := by rw [← hW2]; exact hB1.trans (below_alloc' hB1.size _)
  obtain ⟨r0, r1, rf, rlt⟩ := R2.d2
  obtain ⟨d0, d1, df, dlt⟩ := D2.d2
  have hne1 : ¬ w.heap.size + 1 = w1.heap.size := by omega
  have hne2 : ¬ w1.heap.size = w.heap.size + 1 := by omega
  clear hW2 R1 R2 D2 hB1
  go_region
  all_goals go_wp2_with fail
  all_goals exact bodyPost_ret (v := .tuple #[.slice none 0 0, .int .i64 0, .int .i64 0, .agg #[.int .i64 9, .int .i64 (-3)]]) (by simp [results, Try.results7, go_sem, r0, r1, rf, rlt]) rfl ⟨rfl, (by repeat (first | (with_reducible exact Below.refl _ _) | (with_reducible assumption) | ((with_reducible refine Below.setCell ?_ ?_ _); rotate_left; (focus (first | omega | (simp; done) | (simp; omega)))) | (with_reducible refine Below.drew ?_) | (with_reducible refine below_drewN ?_ _) | ((with_reducible refine Below.alloc ?_ ?_ _); rotate_left; (focus (first | omega | (simp; done) | (simp; omega))))))⟩

structure L1Env (w : World) (iv : Array Value) (wx : World) : Prop where
  below : Below w.heap.size w wx
  img : Blk wx w.heap.size iv 24
theorem L1Env.keep {w wx w1 : World} {iv : Array Value} (h : L1Env w iv wx) (hb : Below wx.heap.size wx w1) : L1Env w iv w1 :=
  ⟨binto h.below hb, h.img.keep hb h.img.lt⟩

set_option maxRecDepth 100000 in
set_option maxHeartbeats 2000000 in
theorem law1_bad1 (W H : Int) (a : Option Addr) (np cp : Nat) (w : World) (h : imageFaultF W H np = (4, -1)) :
    Calls Try.prog 3 #[.agg #[.int .i64 W, .int .i64 H, .slice a np cp]] w fun e w' => e = .returned (.bool true) ∧ Below w.heap.size w w' := by
  have hI := imageFault_any W H a np cp
  rw [h] at hI
  have HI := Lib.hid hI
  have HC := Lib.hid (fun wz => columns_bad1 W H a np cp wz h)
  clear h hI
  go_enter Try.func3, Try.ntmps3
  go_wp2_with fail
  refine (HC.out _).mono ?_
  rintro e w1 ⟨rfl, hb1⟩
  have E1 : L1Env w #[.int .i64 W, .int .i64 H, .slice a np cp] w1 := ⟨binto (below_alloc w _) hb1, (Blk.new _ _ _).keep hb1 (by simp)⟩
  obtain ⟨k0, k1, k2, kf, klt⟩ := E1.img.d3
  clear hb1 HC
  dsimp only
  go_wp2_with fail
  generalize hW2 : World.alloc w1 _ = W2
  have E2 : L1Env w #[.int .i64 W, .int .i64 H, .slice a np cp] W2 := by rw [← hW2]; exact E1.keep (below_alloc _ _)
  have D2 : Blk W2 w1.heap.size #[.int .i64 4, .int .i64 (-1)] 27 := by rw [← hW2]; exact Blk.new _ _ _
  clear hW2 E1 k0 k1 k2 kf klt
  refine (HI.out W2).mono ?_
  rintro e w3 ⟨rfl, hb3⟩
  have E3 := E2.keep hb3
  have D3 := D2.keep hb3 D2.lt
  obtain ⟨d0, d1, df, dlt⟩ := D3.d2
  have dlt1 : w1.heap.size < w3.heap.size + 1 := by omega
  clear E2 D2 D3 hb3 HI
  dsimp only
  go_wp2_with fail
  refine (searched_any _).mono ?_
  rintro e w4 ⟨rfl, hb4⟩
  have hB := binto E3.below (binto (below_alloc w3 _) hb4)
  dsimp only
  go_wp2_with fail
  go_ret
  exact ⟨rfl, hB⟩

set_option maxRecDepth 100000 in
set_option maxHeartbeats 2000000 in
theorem law1_bad2 (W H : Int) (a : Option Addr) (np cp : Nat) (w : World) (h : imageFaultF W H np = (4, -2)) :
    Calls Try.prog 3 #[.agg #[.int .i64 W, .int .i64 H, .slice a np cp]] w fun e w' => e = .returned (.bool true) ∧ Below w.heap.size w w' := by
  have hI := imageFault_any W H a np cp
  rw [h] at hI
  have HI := Lib.hid hI
  have HC := Lib.hid (fun wz => columns_bad2 W H a np cp wz h)
  clear h hI
  go_enter Try.func3, Try.ntmps3
  go_wp2_with fail
  refine (HC.out _).mono ?_
  rintro e w1 ⟨rfl, hb1⟩
  have E1 : L1Env w #[.int .i64 W, .int .i64 H, .slice a np cp] w1 := ⟨binto (below_alloc w _) hb1, (Blk.new _ _ _).keep hb1 (by simp)⟩
  obtain ⟨k0, k1, k2, kf, klt⟩ := E1.img.d3
  clear hb1 HC
  dsimp only
  go_wp2_with fail
  generalize hW2 : World.alloc w1 _ = W2
  have E2 : L1Env w #[.int .i64 W, .int .i64 H, .slice a np cp] W2 := by rw [← hW2]; exact E1.keep (below_alloc _ _)
  have D2 : Blk W2 w1.heap.size #[.int .i64 4, .int .i64 (-2)] 27 := by rw [← hW2]; exact Blk.new _ _ _
  clear hW2 E1 k0 k1 k2 kf klt
  refine (HI.out W2).mono ?_
  rintro e w3 ⟨rfl, hb3⟩
  have E3 := E2.keep hb3
  have D3 := D2.keep hb3 D2.lt
  obtain ⟨d0, d1, df, dlt⟩ := D3.d2
  have dlt1 : w1.heap.size < w3.heap.size + 1 := by omega
  clear E2 D2 D3 hb3 HI
  dsimp only
  go_wp2_with fail
  refine (searched_any _).mono ?_
  rintro e w4 ⟨rfl, hb4⟩
  have hB := binto E3.below (binto (below_alloc w3 _) hb4)
  dsimp only
  go_wp2_with fail
  go_ret
  exact ⟨rfl, hB⟩

set_option maxRecDepth 100000 in
set_option maxHeartbeats 2000000 in
theorem law1_bad3 (W H : Int) (a : Option Addr) (np cp : Nat) (w : World) (h : imageFaultF W H np = (9, -3)) :
    Calls Try.prog 3 #[.agg #[.int .i64 W, .int .i64 H, .slice a np cp]] w fun e w' => e = .returned (.bool true) ∧ Below w.heap.size w w' := by
  have hI := imageFault_any W H a np cp
  rw [h] at hI
  have HI := Lib.hid hI
  have HC := Lib.hid (fun wz => columns_bad3 W H a np cp wz h)
  clear h hI
  go_enter Try.func3, Try.ntmps3
  go_wp2_with fail
  refine (HC.out _).mono ?_
  rintro e w1 ⟨rfl, hb1⟩
  have E1 : L1Env w #[.int .i64 W, .int .i64 H, .slice a np cp] w1 := ⟨binto (below_alloc w _) hb1, (Blk.new _ _ _).keep hb1 (by simp)⟩
  obtain ⟨k0, k1, k2, kf, klt⟩ := E1.img.d3
  clear hb1 HC
  dsimp only
  go_wp2_with fail
  generalize hW2 : World.alloc w1 _ = W2
  have E2 : L1Env w #[.int .i64 W, .int .i64 H, .slice a np cp] W2 := by rw [← hW2]; exact E1.keep (below_alloc _ _)
  have D2 : Blk W2 w1.heap.size #[.int .i64 9, .int .i64 (-3)] 27 := by rw [← hW2]; exact Blk.new _ _ _
  clear hW2 E1 k0 k1 k2 kf klt
  refine (HI.out W2).mono ?_
  rintro e w3 ⟨rfl, hb3⟩
  have E3 := E2.keep hb3
  have D3 := D2.keep hb3 D2.lt
  obtain ⟨d0, d1, df, dlt⟩ := D3.d2
  have dlt1 : w1.heap.size < w3.heap.size + 1 := by omega
  clear E2 D2 D3 hb3 HI
  dsimp only
  go_wp2_with fail
  refine (searched_any _).mono ?_
  rintro e w4 ⟨rfl, hb4⟩
  have hB := binto E3.below (binto (below_alloc w3 _) hb4)
  dsimp only
  go_wp2_with fail
  go_ret
  exact ⟨rfl, hB⟩

set_option maxRecDepth 100000 in
set_option maxHeartbeats 2000000 in
theorem law1_ok (W H : Int) (a : Option Addr) (np cp : Nat) (px : List Int) (w : World) (h : ImgOk w W H (.slice a np cp) px) (hf : imageFaultF W H np = (0, 0)) :
    Calls Try.prog 3 #[.agg #[.int .i64 W, .int .i64 H, .slice a np cp]] w fun e w' => e = .returned (.bool true) ∧ Below w.heap.size w w' := by
  have hI := imageFault_any W H a np cp
  rw [hf] at hI
  have HI := Lib.hid hI
  have HC := Lib.hid (fun wz hz => columns_any W H a np cp px wz hz)
  have HT := Lib.hid (fun wz hz => topsOf_any W H a np cp px wz hz)
  have HH := Lib.hid h
  clear h hf hI
  go_enter Try.func3, Try.ntmps3
  go_wp2_with fail
  refine (HC.out _ (HH.out.below (below_alloc _ _))).mono ?_
  rintro e w1 ⟨rs, o, hst, hco, hb1, hm⟩
  have E1 : L1Env w #[.int .i64 W, .int .i64 H, .slice a np cp] w1 := ⟨binto (below_alloc w _) hb1, (Blk.new _ _ _).keep hb1 (by simp)⟩
  have HST := Lib.hid hst
  have HCO := Lib.hid hco
  clear hst hco HC
  cases o with
  | none =>
    dsimp only at hm
    subst hm
    obtain ⟨k0, k1, k2, kf, klt⟩ := E1.img.d3
    clear hb1
    dsimp only
    go_wp2_with fail
    generalize hW2 : World.alloc w1 _ = W2
    have E2 : L1Env w #[.int .i64 W, .int .i64 H, .slice a np cp] W2 := by rw [← hW2]; exact E1.keep (below_alloc _ _)
    have D2 : Blk W2 w1.heap.size #[.int .i64 12, .int .i64 (-1)] 27 := by rw [← hW2]; exact Blk.new _ _ _
    clear hW2 E1 k0 k1 k2 kf klt
    refine (HI.out W2).mono ?_
    rintro e w3 ⟨rfl, hb3⟩
    have E3 := E2.keep hb3
    have D3 := D2.keep hb3 D2.lt
    have hd3 := D3.lt
    have E3sz := E3.below.size
    clear E2 D2 hb3 HI
    obtain ⟨k0, k1, k2, kf, klt⟩ := E3.img.d3
    have klt1 : w.heap.size < w3.heap.size + 1 := by omega
    dsimp only
    go_wp2_with fail
    generalize hW4 : World.alloc w3 _ = W4
    have E4 : L1Env w #[.int .i64 W, .int .i64 H, .slice a np cp] W4 := by rw [← hW4]; exact E3.keep (below_alloc _ _)
    have D4 : Blk W4 w1.heap.size #[.int .i64 12, .int .i64 (-1)] 27 := by rw [← hW4]; exact D3.alloc _
    have G4 : Blk W4 w3.heap.size #[.int .i64 0, .int .i64 0] 27 := by rw [← hW4]; exact Blk.new _ _ _
    clear hW4 E3 D3 k0 k1 k2 kf klt klt1
    refine (HT.out W4 (HH.out.below E4.below)).mono ?_
    rintro e w5 ⟨rs', o', hst', hco', hb5, hm'⟩
    obtain rfl := HST.out.unique hst'
    obtain rfl := HCO.out.unique hco'
    dsimp only at hm'
    subst hm'
    have E5 := E4.keep hb5
    obtain ⟨d0, d1, df, dlt⟩ := (D4.keep hb5 D4.lt).d2
    obtain ⟨g0, g1, gf, glt⟩ := (G4.keep hb5 G4.lt).d2
    have hne1 : ¬ w1.heap.size = w3.heap.size := by omega
    have hne2 : ¬ w3.heap.size = w1.heap.size := by omega
    have dlt1 : w1.heap.size < w5.heap.size + 1 := by omega
    have glt1 : w3.heap.size < w5.heap.size + 1 := by omega
    have hB5 := E5.below
    have hsz := E5.img.lt
    have hwl : w.heap.size ≤ w3.heap.size := by have := E3sz; omega
    clear E4 D4 G4 hst' hco' hb5 HT
    dsimp only
    go_wp2_with (go_at_call 12; refine (at_exact _ _ _).mono ?_; rintro e w' ⟨rfl, rfl⟩)
    refine (searched_any _).mono ?_
    rintro e w6 ⟨rfl, hb6⟩
    have hB6 : Below w.heap.size w w6 := by
      refine hB5.trans (Below.trans ?_ (hb6.mono ?_))
      · exact (by repeat (first | (with_reducible exact Below.refl _ _) | (with_reducible assumption) | ((with_reducible refine Below.setCell ?_ ?_ _); rotate_left; (focus (first | omega | (simp; done) | (simp; omega)))) | (with_reducible refine Below.drew ?_) | (with_reducible refine below_drewN ?_ _) | ((with_reducible refine Below.alloc ?_ ?_ _); rotate_left; (focus (first | omega | (simp; done) | (simp; omega))))))
      · simp; omega
    dsimp only
    go_wp2_with fail
    go_ret
    exact ⟨rfl, hB6⟩
  | some t =>
    obtain ⟨l, s, R⟩ := t
    dsimp only at hm
    obtain ⟨v, rfl, hov⟩ := hm
    obtain ⟨k0, k1, k2, kf, klt⟩ := E1.img.d3
    have hrd := own_reads hov
    have hw1 := HH.out.w1
    have hs3 : 3 ≤ s := by
      obtain ⟨R', s', hb, h'⟩ := HCO.out
      rcases h' with ⟨-, h'⟩ | ⟨-, a', b', -, -, h'⟩
      · cases h'
      · injection h' with h'
        injection h' with _ h'
        injection h' with h' _
        rw [h']; exact hb.1.2.1
    obtain ⟨va, vc, rfl, -⟩ := id hrd
    have HRD := Lib.hid hrd
    clear hb1 hov hrd
    dsimp only
    go_wp2_with fail
    generalize hW2 : World.alloc w1 _ = W2
    have hb2 : Below w1.heap.size w1 W2 := by rw [← hW2]; exact below_alloc _ _
    have E2 := E1.keep hb2
    have D2 : Blk W2 w1.heap.size #[.int .i64 0, .int .i64 0] 27 := by rw [← hW2]; exact Blk.new _ _ _
    have hrd2 := HRD.out.below hb2
    clear hW2 hb2 E1 k0 k1 k2 kf klt HRD
    refine (HI.out W2).mono ?_
    rintro e w3 ⟨rfl, hb3⟩
    have E3 := E2.keep hb3
    have D3 := D2.keep hb3 D2.lt
    have hrd3 := hrd2.below hb3
    clear E2 D2 hb3 HI hrd2
    obtain ⟨k0, k1, k2, kf, klt⟩ := E3.img.d3
    have klt1 : w.heap.size < w3.heap.size + 1 := by omega
    dsimp only
    go_wp2_with fail
    generalize hW4 : World.alloc w3 _ = W4
    have hb4 : Below w3.heap.size w3 W4 := by rw [← hW4]; exact below_alloc _ _
    have E4 := E3.keep hb4
    have D4 := D3.keep hb4 D3.lt
    have hrd4 := hrd3.below hb4
    clear hW4 hb4 E3 D3 k0 k1 k2 kf klt klt1 hrd3
    refine (HT.out W4 (HH.out.below E4.below)).mono ?_
    rintro e w5 ⟨rs', o', hst', hco', hb5, hm'⟩
    obtain rfl := HST.out.unique hst'
    have hoo := HCO.out.unique hco'
    subst hoo
    dsimp only at hm'
    obtain ⟨u, rfl, hou⟩ := hm'
    have hru := own_reads hou
    obtain ⟨ua, uc, rfl, -⟩ := id hru
    have E5 := E4.keep hb5
    obtain ⟨d0, d1, df, dlt⟩ := (D4.keep hb5 D4.lt).d2
    have hd1 : decide (0 < s) = true := by simp; omega
    have hII := ints_any _ _ l l w5 (hrd4.below hb5) hru
    rw [show decide (l = l) = true by simp] at hII
    have HII := Lib.hid hII
    have hB5 := E5.below
    clear E4 E5 D4 hst' hco' hb5 HT hrd4 hru hou hII
    dsimp only
    go_wp2_with fail
    refine HII.out.mono ?_
    rintro e w6 ⟨rfl, hb6⟩
    have hB6 := binto hB5 hb6
    dsimp only
    go_wp2_with fail
    refine (searched_any _).mono ?_
    rintro e w7 ⟨rfl, hb7⟩
    have hB7 := binto hB6 hb7
    dsimp only
    go_wp2_with fail
    go_ret
    exact ⟨rfl, hB7⟩

end Go.Proofs.Ytnfgedbcfclnmaa
