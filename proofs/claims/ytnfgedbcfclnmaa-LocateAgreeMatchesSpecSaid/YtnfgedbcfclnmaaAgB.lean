/- LocateAgreeMatchesSpec answers true for every image and every frame, valid or not; no condition. -/
import Derived.Test.YtnfgedbcfclnmaaRefA
import Derived.Test.YtnfgedbcfclnmaaOpen
import Derived.Test.YtnfgedbcfclnmaaLeftsW
import Derived.Test.YtnfgedbcfclnmaaEdge
import Derived.Test.YtnfgedbcfclnmaaThere
import Derived.Test.YtnfgedbcfclnmaaTurnF
import Derived.Test.YtnfgedbcfclnmaaLeftF
import Derived.ProofKit
import Derived.Lib.SmallJoins
import Derived.ChangeOld
import Derived.Below
import Derived.Test.YtnfgedbcfclnmaaAgA
import Derived.Test.YtnfgedbcfclnmaaAgreeBad
import Derived.Test.YtnfgedbcfclnmaaOpenBad
import Derived.Test.YtnfgedbcfclnmaaSearched
set_option linter.unusedVariables false
set_option linter.unusedSimpArgs false

namespace Go.Proofs.Ytnfgedbcfclnmaa
open Go.RowKit

theorem imageFault_cases (W H : Int) (n : Nat) : imageFaultF W H n = (0, 0) ∨ imageFaultF W H n = (4, -1) ∨ imageFaultF W H n = (4, -2) ∨ imageFaultF W H n = (9, -3) := by
  unfold imageFaultF
  repeat' split
  all_goals simp
theorem imageFault_ok {W H : Int} {n : Nat} (h : imageFaultF W H n = (0, 0)) : (1 ≤ W ∧ W ≤ 640) ∧ (1 ≤ H ∧ H ≤ 640) ∧ (n : Int) = W * H := by
  unfold imageFaultF at h
  by_cases a : inB W 1 640 = true
  · rw [if_pos a] at h
    by_cases b : inB H 1 640 = true
    · rw [if_pos b] at h
      by_cases c : (n : Int) = W * H
      · simp only [inB, Bool.and_eq_true, decide_eq_true_eq] at a b
        exact ⟨a, b, c⟩
      · rw [if_neg c] at h; cases h
    · rw [if_neg b] at h; cases h
  · rw [if_neg a] at h; cases h

end Go.Proofs.Ytnfgedbcfclnmaa

namespace Go.Proofs.Ytnfgedbcfclnmaa
open Go.RowKit

structure FfEnv (w : World) (iv fv : Array Value) (wx : World) : Prop where
  below : Below w.heap.size w wx
  img : Blk wx w.heap.size iv 24
  frame : Blk wx (w.heap.size + 1) fv 43
  f : Blk wx (w.heap.size + 1 + 1) #[.int .i64 0, .int .i64 0] 27
theorem FfEnv.keep {w wx w1 : World} {iv fv : Array Value} (h : FfEnv w iv fv wx) (hb : Below wx.heap.size wx w1) : FfEnv w iv fv w1 :=
  ⟨binto h.below hb, h.img.keep hb h.img.lt, h.frame.keep hb h.frame.lt, h.f.keep hb h.f.lt⟩

set_option maxRecDepth 100000 in
set_option maxHeartbeats 4000000 in
theorem ff_img1 (W H : Int) (a : Option Addr) (np cp : Nat) (t s R : Int) (tv lv : Value) (l o : List Int) (w : World) (ht : Reads (Value.int .i64) w tv l) (hl : Reads (Value.int .i64) w lv o) (h : imageFaultF W H np = (4, -1)) :
    Calls Try.prog 17 #[.agg #[.int .i64 W, .int .i64 H, .slice a np cp], .agg #[.int .i64 t, .int .i64 s, .int .i64 R, tv, lv]] w fun e w' => e = .returned (.agg #[.int .i64 4, .int .i64 (-1)]) ∧ Below w.heap.size w w' := by
  have hI := imageFault_any W H a np cp
  rw [h] at hI
  have HI := Lib.hid hI
  have HP1 := Lib.hid (fun wz (hz : Below w.heap.size w wz) => positions_any tv l wz (ht.below hz))
  have HP2 := Lib.hid (fun wz (hz : Below w.heap.size w wz) => positions_any lv o wz (hl.below hz))
  have HTI := Lib.hid (show inB (0 : Int) 0 7 = true by decide)
  have HSI := HTI
  obtain ⟨ta, tc, rfl, t1, t2, -⟩ := id ht
  obtain ⟨la, lc, rfl, l1, l2, -⟩ := id hl
  clear hI h ht hl
  go_enter Try.func17, Try.ntmps17
  go_wp2_with fail
  generalize hW0 : World.alloc (World.alloc (World.alloc w _) _) _ = W0
  have E0 : FfEnv w #[.int .i64 W, .int .i64 H, .slice a np cp] #[.int .i64 t, .int .i64 s, .int .i64 R, .slice ta l.length tc, .slice la o.length lc] W0 := by
    rw [← hW0]
    exact ⟨(by repeat (first | (with_reducible exact Below.refl _ _) | (with_reducible assumption) | ((with_reducible refine Below.setCell ?_ ?_ _); rotate_left; (focus (first | omega | (simp; done) | (simp; omega)))) | (with_reducible refine Below.drew ?_) | (with_reducible refine below_drewN ?_ _) | ((with_reducible refine Below.alloc ?_ ?_ _); rotate_left; (focus (first | omega | (simp; done) | (simp; omega)))))), ((Blk.new _ _ _).alloc _).alloc _, (Blk.newAt _ _ (by simp)).alloc _, Blk.newAt _ _ (by simp)⟩
  clear hW0
  obtain ⟨k0, k1, k2, kf, klt⟩ := E0.img.d3
  go_wp2_with fail
  refine (HI.out W0).mono ?_
  rintro e w1 ⟨rfl, hb1⟩
  have E1 := E0.keep hb1
  clear k0 k1 k2 kf klt E0 hb1 HI
  obtain ⟨k0, k1, k2, kf, klt⟩ := E1.img.d3
  obtain ⟨g0, g1, g2, g3, g4, gf, glt⟩ := E1.frame.d5
  obtain ⟨f0, f1, ff, flt⟩ := E1.f.d2
  have klt1 : w.heap.size < w1.heap.size + 1 := by omega
  have glt1 : w.heap.size + 1 < w1.heap.size + 1 := by omega
  have flt1 : w.heap.size + 1 + 1 < w1.heap.size + 1 := by omega
  have flt2 : w.heap.size + 1 + 1 < w1.heap.size + 1 + 1 := by omega
  have hB1 := E1.below
  dsimp only
  go_wp2_with (first | (go_at_call 21; (first | (with_reducible refine (in_is HTI.out _).mono ?_) | (with_reducible refine (in_is HSI.out _).mono ?_)); rintro e w' ⟨rfl, rfl⟩) | (go_at_call 12; refine (at_exact _ _ _).mono ?_; rintro e w' ⟨rfl, rfl⟩) | (go_at_call 46; (first | (with_reducible refine (HP1.out _ (binto hB1 (below_alloc _ _))).mono ?_) | (with_reducible refine (HP2.out _ (binto hB1 (below_alloc _ _))).mono ?_)); rintro e w' ⟨rfl, rfl⟩))
  exact bodyPost_ret (v := .agg #[.int .i64 4, .int .i64 (-1)]) (by simp [results, Try.results17, go_sem, f0, f1, ff, flt, flt1, flt2]) rfl ⟨rfl, (by repeat (first | (with_reducible exact Below.refl _ _) | (with_reducible assumption) | ((with_reducible refine Below.setCell ?_ ?_ _); rotate_left; (focus (first | omega | (simp; done) | (simp; omega)))) | (with_reducible refine Below.drew ?_) | (with_reducible refine below_drewN ?_ _) | ((with_reducible refine Below.alloc ?_ ?_ _); rotate_left; (focus (first | omega | (simp; done) | (simp; omega))))))⟩

set_option maxRecDepth 100000 in
set_option maxHeartbeats 4000000 in
theorem ff_img2 (W H : Int) (a : Option Addr) (np cp : Nat) (t s R : Int) (tv lv : Value) (l o : List Int) (w : World) (ht : Reads (Value.int .i64) w tv l) (hl : Reads (Value.int .i64) w lv o) (h : imageFaultF W H np = (4, -2)) :
    Calls Try.prog 17 #[.agg #[.int .i64 W, .int .i64 H, .slice a np cp], .agg #[.int .i64 t, .int .i64 s, .int .i64 R, tv, lv]] w fun e w' => e = .returned (.agg #[.int .i64 4, .int .i64 (-2)]) ∧ Below w.heap.size w w' := by
  have hI := imageFault_any W H a np cp
  rw [h] at hI
  have HI := Lib.hid hI
  have HP1 := Lib.hid (fun wz (hz : Below w.heap.size w wz) => positions_any tv l wz (ht.below hz))
  have HP2 := Lib.hid (fun wz (hz : Below w.heap.size w wz) => positions_any lv o wz (hl.below hz))
  have HTI := Lib.hid (show inB (0 : Int) 0 7 = true by decide)
  have HSI := HTI
  obtain ⟨ta, tc, rfl, t1, t2, -⟩ := id ht
  obtain ⟨la, lc, rfl, l1, l2, -⟩ := id hl
  clear hI h ht hl
  go_enter Try.func17, Try.ntmps17
  go_wp2_with fail
  generalize hW0 : World.alloc (World.alloc (World.alloc w _) _) _ = W0
  have E0 : FfEnv w #[.int .i64 W, .int .i64 H, .slice a np cp] #[.int .i64 t, .int .i64 s, .int .i64 R, .slice ta l.length tc, .slice la o.length lc] W0 := by
    rw [← hW0]
    exact ⟨(by repeat (first | (with_reducible exact Below.refl _ _) | (with_reducible assumption) | ((with_reducible refine Below.setCell ?_ ?_ _); rotate_left; (focus (first | omega | (simp; done) | (simp; omega)))) | (with_reducible refine Below.drew ?_) | (with_reducible refine below_drewN ?_ _) | ((with_reducible refine Below.alloc ?_ ?_ _); rotate_left; (focus (first | omega | (simp; done) | (simp; omega)))))), ((Blk.new _ _ _).alloc _).alloc _, (Blk.newAt _ _ (by simp)).alloc _, Blk.newAt _ _ (by simp)⟩
  clear hW0
  obtain ⟨k0, k1, k2, kf, klt⟩ := E0.img.d3
  go_wp2_with fail
  refine (HI.out W0).mono ?_
  rintro e w1 ⟨rfl, hb1⟩
  have E1 := E0.keep hb1
  clear k0 k1 k2 kf klt E0 hb1 HI
  obtain ⟨k0, k1, k2, kf, klt⟩ := E1.img.d3
  obtain ⟨g0, g1, g2, g3, g4, gf, glt⟩ := E1.frame.d5
  obtain ⟨f0, f1, ff, flt⟩ := E1.f.d2
  have klt1 : w.heap.size < w1.heap.size + 1 := by omega
  have glt1 : w.heap.size + 1 < w1.heap.size + 1 := by omega
  have flt1 : w.heap.size + 1 + 1 < w1.heap.size + 1 := by omega
  have flt2 : w.heap.size + 1 + 1 < w1.heap.size + 1 + 1 := by omega
  have hB1 := E1.below
  dsimp only
  go_wp2_with (first | (go_at_call 21; (first | (with_reducible refine (in_is HTI.out _).mono ?_) | (with_reducible refine (in_is HSI.out _).mono ?_)); rintro e w' ⟨rfl, rfl⟩) | (go_at_call 12; refine (at_exact _ _ _).mono ?_; rintro e w' ⟨rfl, rfl⟩) | (go_at_call 46; (first | (with_reducible refine (HP1.out _ (binto hB1 (below_alloc _ _))).mono ?_) | (with_reducible refine (HP2.out _ (binto hB1 (below_alloc _ _))).mono ?_)); rintro e w' ⟨rfl, rfl⟩))
  exact bodyPost_ret (v := .agg #[.int .i64 4, .int .i64 (-2)]) (by simp [results, Try.results17, go_sem, f0, f1, ff, flt, flt1, flt2]) rfl ⟨rfl, (by repeat (first | (with_reducible exact Below.refl _ _) | (with_reducible assumption) | ((with_reducible refine Below.setCell ?_ ?_ _); rotate_left; (focus (first | omega | (simp; done) | (simp; omega)))) | (with_reducible refine Below.drew ?_) | (with_reducible refine below_drewN ?_ _) | ((with_reducible refine Below.alloc ?_ ?_ _); rotate_left; (focus (first | omega | (simp; done) | (simp; omega))))))⟩

set_option maxRecDepth 100000 in
set_option maxHeartbeats 4000000 in
theorem ff_img3 (W H : Int) (a : Option Addr) (np cp : Nat) (t s R : Int) (tv lv : Value) (l o : List Int) (w : World) (ht : Reads (Value.int .i64) w tv l) (hl : Reads (Value.int .i64) w lv o) (h : imageFaultF W H np = (9, -3)) :
    Calls Try.prog 17 #[.agg #[.int .i64 W, .int .i64 H, .slice a np cp], .agg #[.int .i64 t, .int .i64 s, .int .i64 R, tv, lv]] w fun e w' => e = .returned (.agg #[.int .i64 9, .int .i64 (-3)]) ∧ Below w.heap.size w w' := by
  have hI := imageFault_any W H a np cp
  rw [h] at hI
  have HI := Lib.hid hI
  have HP1 := Lib.hid (fun wz (hz : Below w.heap.size w wz) => positions_any tv l wz (ht.below hz))
  have HP2 := Lib.hid (fun wz (hz : Below w.heap.size w wz) => positions_any lv o wz (hl.below hz))
  have HTI := Lib.hid (show inB (0 : Int) 0 7 = true by decide)
  have HSI := HTI
  obtain ⟨ta, tc, rfl, t1, t2, -⟩ := id ht
  obtain ⟨la, lc, rfl, l1, l2, -⟩ := id hl
  clear hI h ht hl
  go_enter Try.func17, Try.ntmps17
  go_wp2_with fail
  generalize hW0 : World.alloc (World.alloc (World.alloc w _) _) _ = W0
  have E0 : FfEnv w #[.int .i64 W, .int .i64 H, .slice a np cp] #[.int .i64 t, .int .i64 s, .int .i64 R, .slice ta l.length tc, .slice la o.length lc] W0 := by
    rw [← hW0]
    exact ⟨(by repeat (first | (with_reducible exact Below.refl _ _) | (with_reducible assumption) | ((with_reducible refine Below.setCell ?_ ?_ _); rotate_left; (focus (first | omega | (simp; done) | (simp; omega)))) | (with_reducible refine Below.drew ?_) | (with_reducible refine below_drewN ?_ _) | ((with_reducible refine Below.alloc ?_ ?_ _); rotate_left; (focus (first | omega | (simp; done) | (simp; omega)))))), ((Blk.new _ _ _).alloc _).alloc _, (Blk.newAt _ _ (by simp)).alloc _, Blk.newAt _ _ (by simp)⟩
  clear hW0
  obtain ⟨k0, k1, k2, kf, klt⟩ := E0.img.d3
  go_wp2_with fail
  refine (HI.out W0).mono ?_
  rintro e w1 ⟨rfl, hb1⟩
  have E1 := E0.keep hb1
  clear k0 k1 k2 kf klt E0 hb1 HI
  obtain ⟨k0, k1, k2, kf, klt⟩ := E1.img.d3
  obtain ⟨g0, g1, g2, g3, g4, gf, glt⟩ := E1.frame.d5
  obtain ⟨f0, f1, ff, flt⟩ := E1.f.d2
  have klt1 : w.heap.size < w1.heap.size + 1 := by omega
  have glt1 : w.heap.size + 1 < w1.heap.size + 1 := by omega
  have flt1 : w.heap.size + 1 + 1 < w1.heap.size + 1 := by omega
  have flt2 : w.heap.size + 1 + 1 < w1.heap.size + 1 + 1 := by omega
  have hB1 := E1.below
  dsimp only
  go_wp2_with (first | (go_at_call 21; (first | (with_reducible refine (in_is HTI.out _).mono ?_) | (with_reducible refine (in_is HSI.out _).mono ?_)); rintro e w' ⟨rfl, rfl⟩) | (go_at_call 12; refine (at_exact _ _ _).mono ?_; rintro e w' ⟨rfl, rfl⟩) | (go_at_call 46; (first | (with_reducible refine (HP1.out _ (binto hB1 (below_alloc _ _))).mono ?_) | (with_reducible refine (HP2.out _ (binto hB1 (below_alloc _ _))).mono ?_)); rintro e w' ⟨rfl, rfl⟩))
  exact bodyPost_ret (v := .agg #[.int .i64 9, .int .i64 (-3)]) (by simp [results, Try.results17, go_sem, f0, f1, ff, flt, flt1, flt2]) rfl ⟨rfl, (by repeat (first | (with_reducible exact Below.refl _ _) | (with_reducible assumption) | ((with_reducible refine Below.setCell ?_ ?_ _); rotate_left; (focus (first | omega | (simp; done) | (simp; omega)))) | (with_reducible refine Below.drew ?_) | (with_reducible refine below_drewN ?_ _) | ((with_reducible refine Below.alloc ?_ ?_ _); rotate_left; (focus (first | omega | (simp; done) | (simp; omega))))))⟩

set_option maxRecDepth 100000 in
set_option maxHeartbeats 4000000 in
theorem ff_turn (W H : Int) (a : Option Addr) (np cp : Nat) (t s R : Int) (tv lv : Value) (l o : List Int) (w : World) (ht : Reads (Value.int .i64) w tv l) (hl : Reads (Value.int .i64) w lv o) (h : imageFaultF W H np = (0, 0)) (hti : inB t 0 7 = false) :
    Calls Try.prog 17 #[.agg #[.int .i64 W, .int .i64 H, .slice a np cp], .agg #[.int .i64 t, .int .i64 s, .int .i64 R, tv, lv]] w fun e w' => e = .returned (.agg #[.int .i64 6, .int .i64 (-2)]) ∧ Below w.heap.size w w' := by
  have hI := imageFault_any W H a np cp
  rw [h] at hI
  have HI := Lib.hid hI
  have HP1 := Lib.hid (fun wz (hz : Below w.heap.size w wz) => positions_any tv l wz (ht.below hz))
  have HP2 := Lib.hid (fun wz (hz : Below w.heap.size w wz) => positions_any lv o wz (hl.below hz))
  have HTI := Lib.hid hti
  have HSI := HTI
  obtain ⟨ta, tc, rfl, t1, t2, -⟩ := id ht
  obtain ⟨la, lc, rfl, l1, l2, -⟩ := id hl
  clear hI h ht hl hti
  go_enter Try.func17, Try.ntmps17
  go_wp2_with fail
  generalize hW0 : World.alloc (World.alloc (World.alloc w _) _) _ = W0
  have E0 : FfEnv w #[.int .i64 W, .int .i64 H, .slice a np cp] #[.int .i64 t, .int .i64 s, .int .i64 R, .slice ta l.length tc, .slice la o.length lc] W0 := by
    rw [← hW0]
    exact ⟨(by repeat (first | (with_reducible exact Below.refl _ _) | (with_reducible assumption) | ((with_reducible refine Below.setCell ?_ ?_ _); rotate_left; (focus (first | omega | (simp; done) | (simp; omega)))) | (with_reducible refine Below.drew ?_) | (with_reducible refine below_drewN ?_ _) | ((with_reducible refine Below.alloc ?_ ?_ _); rotate_left; (focus (first | omega | (simp; done) | (simp; omega)))))), ((Blk.new _ _ _).alloc _).alloc _, (Blk.newAt _ _ (by simp)).alloc _, Blk.newAt _ _ (by simp)⟩
  clear hW0
  obtain ⟨k0, k1, k2, kf, klt⟩ := E0.img.d3
  go_wp2_with fail
  refine (HI.out W0).mono ?_
  rintro e w1 ⟨rfl, hb1⟩
  have E1 := E0.keep hb1
  clear k0 k1 k2 kf klt E0 hb1 HI
  obtain ⟨k0, k1, k2, kf, klt⟩ := E1.img.d3
  obtain ⟨g0, g1, g2, g3, g4, gf, glt⟩ := E1.frame.d5
  obtain ⟨f0, f1, ff, flt⟩ := E1.f.d2
  have klt1 : w.heap.size < w1.heap.size + 1 := by omega
  have glt1 : w.heap.size + 1 < w1.heap.size + 1 := by omega
  have flt1 : w.heap.size + 1 + 1 < w1.heap.size + 1 := by omega
  have flt2 : w.heap.size + 1 + 1 < w1.heap.size + 1 + 1 := by omega
  have hB1 := E1.below
  dsimp only
  go_wp2_with (first | (go_at_call 21; (first | (with_reducible refine (in_is HTI.out _).mono ?_) | (with_reducible refine (in_is HSI.out _).mono ?_)); rintro e w' ⟨rfl, rfl⟩) | (go_at_call 12; refine (at_exact _ _ _).mono ?_; rintro e w' ⟨rfl, rfl⟩) | (go_at_call 46; (first | (with_reducible refine (HP1.out _ (binto hB1 (below_alloc _ _))).mono ?_) | (with_reducible refine (HP2.out _ (binto hB1 (below_alloc _ _))).mono ?_)); rintro e w' ⟨rfl, rfl⟩))
  exact bodyPost_ret (v := .agg #[.int .i64 6, .int .i64 (-2)]) (by simp [results, Try.results17, go_sem, f0, f1, ff, flt, flt1, flt2]) rfl ⟨rfl, (by repeat (first | (with_reducible exact Below.refl _ _) | (with_reducible assumption) | ((with_reducible refine Below.setCell ?_ ?_ _); rotate_left; (focus (first | omega | (simp; done) | (simp; omega)))) | (with_reducible refine Below.drew ?_) | (with_reducible refine below_drewN ?_ _) | ((with_reducible refine Below.alloc ?_ ?_ _); rotate_left; (focus (first | omega | (simp; done) | (simp; omega))))))⟩

set_option maxRecDepth 100000 in
set_option maxHeartbeats 4000000 in
theorem ff_scale0 (W H : Int) (a : Option Addr) (np cp : Nat) (t s R : Int) (tv lv : Value) (l o : List Int) (w : World) (ht : Reads (Value.int .i64) w tv l) (hl : Reads (Value.int .i64) w lv o) (h : imageFaultF W H np = (0, 0)) (hti : inB t 0 7 = true) (hp : Int.tmod t 2 = 0) (hsi : inB s 3 6 = false) :
    Calls Try.prog 17 #[.agg #[.int .i64 W, .int .i64 H, .slice a np cp], .agg #[.int .i64 t, .int .i64 s, .int .i64 R, tv, lv]] w fun e w' => e = .returned (.agg #[.int .i64 6, .int .i64 (-2)]) ∧ Below w.heap.size w w' := by
  have hI := imageFault_any W H a np cp
  rw [h] at hI
  have HI := Lib.hid hI
  have HP1 := Lib.hid (fun wz (hz : Below w.heap.size w wz) => positions_any tv l wz (ht.below hz))
  have HP2 := Lib.hid (fun wz (hz : Below w.heap.size w wz) => positions_any lv o wz (hl.below hz))
  have HTI := Lib.hid hti
  have hpw : IntKind.i64.wrap 0 = 0 := IntWalk.i64_in _ (by omega)
  have HSI := Lib.hid hsi
  obtain ⟨ta, tc, rfl, t1, t2, -⟩ := id ht
  obtain ⟨la, lc, rfl, l1, l2, -⟩ := id hl
  clear hI h ht hl hti hsi
  go_enter Try.func17, Try.ntmps17
  go_wp2_with fail
  generalize hW0 : World.alloc (World.alloc (World.alloc w _) _) _ = W0
  have E0 : FfEnv w #[.int .i64 W, .int .i64 H, .slice a np cp] #[.int .i64 t, .int .i64 s, .int .i64 R, .slice ta l.length tc, .slice la o.length lc] W0 := by
    rw [← hW0]
    exact ⟨(by repeat (first | (with_reducible exact Below.refl _ _) | (with_reducible assumption) | ((with_reducible refine Below.setCell ?_ ?_ _); rotate_left; (focus (first | omega | (simp; done) | (simp; omega)))) | (with_reducible refine Below.drew ?_) | (with_reducible refine below_drewN ?_ _) | ((with_reducible refine Below.alloc ?_ ?_ _); rotate_left; (focus (first | omega | (simp; done) | (simp; omega)))))), ((Blk.new _ _ _).alloc _).alloc _, (Blk.newAt _ _ (by simp)).alloc _, Blk.newAt _ _ (by simp)⟩
  clear hW0
  obtain ⟨k0, k1, k2, kf, klt⟩ := E0.img.d3
  go_wp2_with fail
  refine (HI.out W0).mono ?_
  rintro e w1 ⟨rfl, hb1⟩
  have E1 := E0.keep hb1
  clear k0 k1 k2 kf klt E0 hb1 HI
  obtain ⟨k0, k1, k2, kf, klt⟩ := E1.img.d3
  obtain ⟨g0, g1, g2, g3, g4, gf, glt⟩ := E1.frame.d5
  obtain ⟨f0, f1, ff, flt⟩ := E1.f.d2
  have klt1 : w.heap.size < w1.heap.size + 1 := by omega
  have glt1 : w.heap.size + 1 < w1.heap.size + 1 := by omega
  have flt1 : w.heap.size + 1 + 1 < w1.heap.size + 1 := by omega
  have flt2 : w.heap.size + 1 + 1 < w1.heap.size + 1 + 1 := by omega
  have hB1 := E1.below
  dsimp only
  go_wp2_with (first | (go_at_call 21; (first | (with_reducible refine (in_is HTI.out _).mono ?_) | (with_reducible refine (in_is HSI.out _).mono ?_)); rintro e w' ⟨rfl, rfl⟩) | (go_at_call 12; refine (at_exact _ _ _).mono ?_; rintro e w' ⟨rfl, rfl⟩) | (go_at_call 46; (first | (with_reducible refine (HP1.out _ (binto hB1 (below_alloc _ _))).mono ?_) | (with_reducible refine (HP2.out _ (binto hB1 (below_alloc _ _))).mono ?_)); rintro e w' ⟨rfl, rfl⟩))
  exact bodyPost_ret (v := .agg #[.int .i64 6, .int .i64 (-2)]) (by simp [results, Try.results17, go_sem, f0, f1, ff, flt, flt1, flt2]) rfl ⟨rfl, (by repeat (first | (with_reducible exact Below.refl _ _) | (with_reducible assumption) | ((with_reducible refine Below.setCell ?_ ?_ _); rotate_left; (focus (first | omega | (simp; done) | (simp; omega)))) | (with_reducible refine Below.drew ?_) | (with_reducible refine below_drewN ?_ _) | ((with_reducible refine Below.alloc ?_ ?_ _); rotate_left; (focus (first | omega | (simp; done) | (simp; omega))))))⟩

set_option maxRecDepth 100000 in
set_option maxHeartbeats 4000000 in
theorem ff_rows0 (W H : Int) (a : Option Addr) (np cp : Nat) (t s R : Int) (tv lv : Value) (l o : List Int) (w : World) (ht : Reads (Value.int .i64) w tv l) (hl : Reads (Value.int .i64) w lv o) (h : imageFaultF W H np = (0, 0)) (hti : inB t 0 7 = true) (hp : Int.tmod t 2 = 0) (hsi : inB s 3 6 = true) (hr1 : (R == 85) = false) (hr2 : (R == 53) = false) :
    Calls Try.prog 17 #[.agg #[.int .i64 W, .int .i64 H, .slice a np cp], .agg #[.int .i64 t, .int .i64 s, .int .i64 R, tv, lv]] w fun e w' => e = .returned (.agg #[.int .i64 6, .int .i64 (-2)]) ∧ Below w.heap.size w w' := by
  have hI := imageFault_any W H a np cp
  rw [h] at hI
  have HI := Lib.hid hI
  have HP1 := Lib.hid (fun wz (hz : Below w.heap.size w wz) => positions_any tv l wz (ht.below hz))
  have HP2 := Lib.hid (fun wz (hz : Below w.heap.size w wz) => positions_any lv o wz (hl.below hz))
  have HTI := Lib.hid hti
  have hpw : IntKind.i64.wrap 0 = 0 := IntWalk.i64_in _ (by omega)
  have HSI := Lib.hid hsi
  obtain ⟨ta, tc, rfl, t1, t2, -⟩ := id ht
  obtain ⟨la, lc, rfl, l1, l2, -⟩ := id hl
  clear hI h ht hl hti hsi
  go_enter Try.func17, Try.ntmps17
  go_wp2_with fail
  generalize hW0 : World.alloc (World.alloc (World.alloc w _) _) _ = W0
  have E0 : FfEnv w #[.int .i64 W, .int .i64 H, .slice a np cp] #[.int .i64 t, .int .i64 s, .int .i64 R, .slice ta l.length tc, .slice la o.length lc] W0 := by
    rw [← hW0]
    exact ⟨(by repeat (first | (with_reducible exact Below.refl _ _) | (with_reducible assumption) | ((with_reducible refine Below.setCell ?_ ?_ _); rotate_left; (focus (first | omega | (simp; done) | (simp; omega)))) | (with_reducible refine Below.drew ?_) | (with_reducible refine below_drewN ?_ _) | ((with_reducible refine Below.alloc ?_ ?_ _); rotate_left; (focus (first | omega | (simp; done) | (simp; omega)))))), ((Blk.new _ _ _).alloc _).alloc _, (Blk.newAt _ _ (by simp)).alloc _, Blk.newAt _ _ (by simp)⟩
  clear hW0
  obtain ⟨k0, k1, k2, kf, klt⟩ := E0.img.d3
  go_wp2_with fail
  refine (HI.out W0).mono ?_
  rintro e w1 ⟨rfl, hb1⟩
  have E1 := E0.keep hb1
  clear k0 k1 k2 kf klt E0 hb1 HI
  obtain ⟨k0, k1, k2, kf, klt⟩ := E1.img.d3
  obtain ⟨g0, g1, g2, g3, g4, gf, glt⟩ := E1.frame.d5
  obtain ⟨f0, f1, ff, flt⟩ := E1.f.d2
  have klt1 : w.heap.size < w1.heap.size + 1 := by omega
  have glt1 : w.heap.size + 1 < w1.heap.size + 1 := by omega
  have flt1 : w.heap.size + 1 + 1 < w1.heap.size + 1 := by omega
  have flt2 : w.heap.size + 1 + 1 < w1.heap.size + 1 + 1 := by omega
  have hB1 := E1.below
  dsimp only
  go_wp2_with (first | (go_at_call 21; (first | (with_reducible refine (in_is HTI.out _).mono ?_) | (with_reducible refine (in_is HSI.out _).mono ?_)); rintro e w' ⟨rfl, rfl⟩) | (go_at_call 12; refine (at_exact _ _ _).mono ?_; rintro e w' ⟨rfl, rfl⟩) | (go_at_call 46; (first | (with_reducible refine (HP1.out _ (binto hB1 (below_alloc _ _))).mono ?_) | (with_reducible refine (HP2.out _ (binto hB1 (below_alloc _ _))).mono ?_)); rintro e w' ⟨rfl, rfl⟩))
  exact bodyPost_ret (v := .agg #[.int .i64 6, .int .i64 (-2)]) (by simp [results, Try.results17, go_sem, f0, f1, ff, flt, flt1, flt2]) rfl ⟨rfl, (by repeat (first | (with_reducible exact Below.refl _ _) | (with_reducible assumption) | ((with_reducible refine Below.setCell ?_ ?_ _); rotate_left; (focus (first | omega | (simp; done) | (simp; omega)))) | (with_reducible refine Below.drew ?_) | (with_reducible refine below_drewN ?_ _) | ((with_reducible refine Below.alloc ?_ ?_ _); rotate_left; (focus (first | omega | (simp; done) | (simp; omega))))))⟩

set_option maxRecDepth 100000 in
set_option maxHeartbeats 4000000 in
theorem ff_len1_0_85 (W H : Int) (a : Option Addr) (np cp : Nat) (t s R : Int) (tv lv : Value) (l o : List Int) (w : World) (ht : Reads (Value.int .i64) w tv l) (hl : Reads (Value.int .i64) w lv o) (h : imageFaultF W H np = (0, 0)) (hti : inB t 0 7 = true) (hp : Int.tmod t 2 = 0) (hsi : inB s 3 6 = true) (hR : R = 85) (hl1 : ((l.length : Int) == W) = false) :
    Calls Try.prog 17 #[.agg #[.int .i64 W, .int .i64 H, .slice a np cp], .agg #[.int .i64 t, .int .i64 s, .int .i64 R, tv, lv]] w fun e w' => e = .returned (.agg #[.int .i64 6, .int .i64 (-2)]) ∧ Below w.heap.size w w' := by
  have hI := imageFault_any W H a np cp
  rw [h] at hI
  have HI := Lib.hid hI
  have HP1 := Lib.hid (fun wz (hz : Below w.heap.size w wz) => positions_any tv l wz (ht.below hz))
  have HP2 := Lib.hid (fun wz (hz : Below w.heap.size w wz) => positions_any lv o wz (hl.below hz))
  have HTI := Lib.hid hti
  have hpw : IntKind.i64.wrap 0 = 0 := IntWalk.i64_in _ (by omega)
  have HSI := Lib.hid hsi
  subst hR
  obtain ⟨ta, tc, rfl, t1, t2, -⟩ := id ht
  obtain ⟨la, lc, rfl, l1, l2, -⟩ := id hl
  clear hI h ht hl hti hsi
  go_enter Try.func17, Try.ntmps17
  go_wp2_with fail
  generalize hW0 : World.alloc (World.alloc (World.alloc w _) _) _ = W0
  have E0 : FfEnv w #[.int .i64 W, .int .i64 H, .slice a np cp] #[.int .i64 t, .int .i64 s, .int .i64 85, .slice ta l.length tc, .slice la o.length lc] W0 := by
    rw [← hW0]
    exact ⟨(by repeat (first | (with_reducible exact Below.refl _ _) | (with_reducible assumption) | ((with_reducible refine Below.setCell ?_ ?_ _); rotate_left; (focus (first | omega | (simp; done) | (simp; omega)))) | (with_reducible refine Below.drew ?_) | (with_reducible refine below_drewN ?_ _) | ((with_reducible refine Below.alloc ?_ ?_ _); rotate_left; (focus (first | omega | (simp; done) | (simp; omega)))))), ((Blk.new _ _ _).alloc _).alloc _, (Blk.newAt _ _ (by simp)).alloc _, Blk.newAt _ _ (by simp)⟩
  clear hW0
  obtain ⟨k0, k1, k2, kf, klt⟩ := E0.img.d3
  go_wp2_with fail
  refine (HI.out W0).mono ?_
  rintro e w1 ⟨rfl, hb1⟩
  have E1 := E0.keep hb1
  clear k0 k1 k2 kf klt E0 hb1 HI
  obtain ⟨k0, k1, k2, kf, klt⟩ := E1.img.d3
  obtain ⟨g0, g1, g2, g3, g4, gf, glt⟩ := E1.frame.d5
  obtain ⟨f0, f1, ff, flt⟩ := E1.f.d2
  have klt1 : w.heap.size < w1.heap.size + 1 := by omega
  have glt1 : w.heap.size + 1 < w1.heap.size + 1 := by omega
  have flt1 : w.heap.size + 1 + 1 < w1.heap.size + 1 := by omega
  have flt2 : w.heap.size + 1 + 1 < w1.heap.size + 1 + 1 := by omega
  have hB1 := E1.below
  dsimp only
  go_wp2_with (first | (go_at_call 21; (first | (with_reducible refine (in_is HTI.out _).mono ?_) | (with_reducible refine (in_is HSI.out _).mono ?_)); rintro e w' ⟨rfl, rfl⟩) | (go_at_call 12; refine (at_exact _ _ _).mono ?_; rintro e w' ⟨rfl, rfl⟩) | (go_at_call 46; (first | (with_reducible refine (HP1.out _ (binto hB1 (below_alloc _ _))).mono ?_) | (with_reducible refine (HP2.out _ (binto hB1 (below_alloc _ _))).mono ?_)); rintro e w' ⟨rfl, rfl⟩))
  exact bodyPost_ret (v := .agg #[.int .i64 6, .int .i64 (-2)]) (by simp [results, Try.results17, go_sem, f0, f1, ff, flt, flt1, flt2]) rfl ⟨rfl, (by repeat (first | (with_reducible exact Below.refl _ _) | (with_reducible assumption) | ((with_reducible refine Below.setCell ?_ ?_ _); rotate_left; (focus (first | omega | (simp; done) | (simp; omega)))) | (with_reducible refine Below.drew ?_) | (with_reducible refine below_drewN ?_ _) | ((with_reducible refine Below.alloc ?_ ?_ _); rotate_left; (focus (first | omega | (simp; done) | (simp; omega))))))⟩

set_option maxRecDepth 100000 in
set_option maxHeartbeats 4000000 in
theorem ff_len2_0_85 (W H : Int) (a : Option Addr) (np cp : Nat) (t s R : Int) (tv lv : Value) (l o : List Int) (w : World) (ht : Reads (Value.int .i64) w tv l) (hl : Reads (Value.int .i64) w lv o) (h : imageFaultF W H np = (0, 0)) (hti : inB t 0 7 = true) (hp : Int.tmod t 2 = 0) (hsi : inB s 3 6 = true) (hR : R = 85) (hl1 : (l.length : Int) = W) (hl2 : ((o.length : Int) != 85 * s) = true) :
    Calls Try.prog 17 #[.agg #[.int .i64 W, .int .i64 H, .slice a np cp], .agg #[.int .i64 t, .int .i64 s, .int .i64 R, tv, lv]] w fun e w' => e = .returned (.agg #[.int .i64 6, .int .i64 (-2)]) ∧ Below w.heap.size w w' := by
  have hI := imageFault_any W H a np cp
  rw [h] at hI
  have HI := Lib.hid hI
  have HP1 := Lib.hid (fun wz (hz : Below w.heap.size w wz) => positions_any tv l wz (ht.below hz))
  have HP2 := Lib.hid (fun wz (hz : Below w.heap.size w wz) => positions_any lv o wz (hl.below hz))
  have HTI := Lib.hid hti
  have hpw : IntKind.i64.wrap 0 = 0 := IntWalk.i64_in _ (by omega)
  have HSI := Lib.hid hsi
  have hl1B : ((l.length : Int) == W) = true := by simpa using hl1
  have hwr : IntKind.i64.wrap (85 * s) = 85 * s := IntWalk.i64_in _ (by simp only [inB, Bool.and_eq_true, decide_eq_true_eq] at hsi; omega)
  subst hR
  obtain ⟨ta, tc, rfl, t1, t2, -⟩ := id ht
  obtain ⟨la, lc, rfl, l1, l2, -⟩ := id hl
  clear hI h ht hl hti hsi hl1
  go_enter Try.func17, Try.ntmps17
  go_wp2_with fail
  generalize hW0 : World.alloc (World.alloc (World.alloc w _) _) _ = W0
  have E0 : FfEnv w #[.int .i64 W, .int .i64 H, .slice a np cp] #[.int .i64 t, .int .i64 s, .int .i64 85, .slice ta l.length tc, .slice la o.length lc] W0 := by
    rw [← hW0]
    exact ⟨(by repeat (first | (with_reducible exact Below.refl _ _) | (with_reducible assumption) | ((with_reducible refine Below.setCell ?_ ?_ _); rotate_left; (focus (first | omega | (simp; done) | (simp; omega)))) | (with_reducible refine Below.drew ?_) | (with_reducible refine below_drewN ?_ _) | ((with_reducible refine Below.alloc ?_ ?_ _); rotate_left; (focus (first | omega | (simp; done) | (simp; omega)))))), ((Blk.new _ _ _).alloc _).alloc _, (Blk.newAt _ _ (by simp)).alloc _, Blk.newAt _ _ (by simp)⟩
  clear hW0
  obtain ⟨k0, k1, k2, kf, klt⟩ := E0.img.d3
  go_wp2_with fail
  refine (HI.out W0).mono ?_
  rintro e w1 ⟨rfl, hb1⟩
  have E1 := E0.keep hb1
  clear k0 k1 k2 kf klt E0 hb1 HI
  obtain ⟨k0, k1, k2, kf, klt⟩ := E1.img.d3
  obtain ⟨g0, g1, g2, g3, g4, gf, glt⟩ := E1.frame.d5
  obtain ⟨f0, f1, ff, flt⟩ := E1.f.d2
  have klt1 : w.heap.size < w1.heap.size + 1 := by omega
  have glt1 : w.heap.size + 1 < w1.heap.size + 1 := by omega
  have flt1 : w.heap.size + 1 + 1 < w1.heap.size + 1 := by omega
  have flt2 : w.heap.size + 1 + 1 < w1.heap.size + 1 + 1 := by omega
  have hB1 := E1.below
  dsimp only
  go_wp2_with (first | (go_at_call 21; (first | (with_reducible refine (in_is HTI.out _).mono ?_) | (with_reducible refine (in_is HSI.out _).mono ?_)); rintro e w' ⟨rfl, rfl⟩) | (go_at_call 12; refine (at_exact _ _ _).mono ?_; rintro e w' ⟨rfl, rfl⟩) | (go_at_call 46; (first | (with_reducible refine (HP1.out _ (binto hB1 (below_alloc _ _))).mono ?_) | (with_reducible refine (HP2.out _ (binto hB1 (below_alloc _ _))).mono ?_)); rintro e w' ⟨rfl, rfl⟩))
  exact bodyPost_ret (v := .agg #[.int .i64 6, .int .i64 (-2)]) (by simp [results, Try.results17, go_sem, f0, f1, ff, flt, flt1, flt2]) rfl ⟨rfl, (by repeat (first | (with_reducible exact Below.refl _ _) | (with_reducible assumption) | ((with_reducible refine Below.setCell ?_ ?_ _); rotate_left; (focus (first | omega | (simp; done) | (simp; omega)))) | (with_reducible refine Below.drew ?_) | (with_reducible refine below_drewN ?_ _) | ((with_reducible refine Below.alloc ?_ ?_ _); rotate_left; (focus (first | omega | (simp; done) | (simp; omega))))))⟩

set_option maxRecDepth 100000 in
set_option maxHeartbeats 4000000 in
theorem ff_tops_0_85 (W H : Int) (a : Option Addr) (np cp : Nat) (t s R : Int) (tv lv : Value) (l o : List Int) (w : World) (ht : Reads (Value.int .i64) w tv l) (hl : Reads (Value.int .i64) w lv o) (h : imageFaultF W H np = (0, 0)) (hti : inB t 0 7 = true) (hp : Int.tmod t 2 = 0) (hsi : inB s 3 6 = true) (hR : R = 85) (hl1 : (l.length : Int) = W) (hl2 : ((o.length : Int) != 85 * s) = false) (hok : listOk l = false) :
    Calls Try.prog 17 #[.agg #[.int .i64 W, .int .i64 H, .slice a np cp], .agg #[.int .i64 t, .int .i64 s, .int .i64 R, tv, lv]] w fun e w' => e = .returned (.agg #[.int .i64 6, .int .i64 (-2)]) ∧ Below w.heap.size w w' := by
  have hI := imageFault_any W H a np cp
  rw [h] at hI
  have HI := Lib.hid hI
  have HP1 := Lib.hid (fun wz (hz : Below w.heap.size w wz) => positions_any tv l wz (ht.below hz))
  have HP2 := Lib.hid (fun wz (hz : Below w.heap.size w wz) => positions_any lv o wz (hl.below hz))
  have HTI := Lib.hid hti
  have hpw : IntKind.i64.wrap 0 = 0 := IntWalk.i64_in _ (by omega)
  have HSI := Lib.hid hsi
  have hl1B : ((l.length : Int) == W) = true := by simpa using hl1
  have hwr : IntKind.i64.wrap (85 * s) = 85 * s := IntWalk.i64_in _ (by simp only [inB, Bool.and_eq_true, decide_eq_true_eq] at hsi; omega)
  rw [hok] at HP1
  subst hR
  obtain ⟨ta, tc, rfl, t1, t2, -⟩ := id ht
  obtain ⟨la, lc, rfl, l1, l2, -⟩ := id hl
  clear hI h ht hl hti hsi hl1 hok
  go_enter Try.func17, Try.ntmps17
  go_wp2_with fail
  generalize hW0 : World.alloc (World.alloc (World.alloc w _) _) _ = W0
  have E0 : FfEnv w #[.int .i64 W, .int .i64 H, .slice a np cp] #[.int .i64 t, .int .i64 s, .int .i64 85, .slice ta l.length tc, .slice la o.length lc] W0 := by
    rw [← hW0]
    exact ⟨(by repeat (first | (with_reducible exact Below.refl _ _) | (with_reducible assumption) | ((with_reducible refine Below.setCell ?_ ?_ _); rotate_left; (focus (first | omega | (simp; done) | (simp; omega)))) | (with_reducible refine Below.drew ?_) | (with_reducible refine below_drewN ?_ _) | ((with_reducible refine Below.alloc ?_ ?_ _); rotate_left; (focus (first | omega | (simp; done) | (simp; omega)))))), ((Blk.new _ _ _).alloc _).alloc _, (Blk.newAt _ _ (by simp)).alloc _, Blk.newAt _ _ (by simp)⟩
  clear hW0
  obtain ⟨k0, k1, k2, kf, klt⟩ := E0.img.d3
  go_wp2_with fail
  refine (HI.out W0).mono ?_
  rintro e w1 ⟨rfl, hb1⟩
  have E1 := E0.keep hb1
  clear k0 k1 k2 kf klt E0 hb1 HI
  obtain ⟨k0, k1, k2, kf, klt⟩ := E1.img.d3
  obtain ⟨g0, g1, g2, g3, g4, gf, glt⟩ := E1.frame.d5
  obtain ⟨f0, f1, ff, flt⟩ := E1.f.d2
  have klt1 : w.heap.size < w1.heap.size + 1 := by omega
  have glt1 : w.heap.size + 1 < w1.heap.size + 1 := by omega
  have flt1 : w.heap.size + 1 + 1 < w1.heap.size + 1 := by omega
  have flt2 : w.heap.size + 1 + 1 < w1.heap.size + 1 + 1 := by omega
  have hB1 := E1.below
  dsimp only
  go_wp2_with (first | (go_at_call 21; (first | (with_reducible refine (in_is HTI.out _).mono ?_) | (with_reducible refine (in_is HSI.out _).mono ?_)); rintro e w' ⟨rfl, rfl⟩) | (go_at_call 12; refine (at_exact _ _ _).mono ?_; rintro e w' ⟨rfl, rfl⟩) | (go_at_call 46; (first | (with_reducible refine (HP1.out _ (binto hB1 (below_alloc _ _))).mono ?_) | (with_reducible refine (HP2.out _ (binto hB1 (below_alloc _ _))).mono ?_)); rintro e w' ⟨rfl, rfl⟩))
  exact bodyPost_ret (v := .agg #[.int .i64 6, .int .i64 (-2)]) (by simp [results, Try.results17, go_sem, f0, f1, ff, flt, flt1, flt2]) rfl ⟨rfl, (by repeat (first | (with_reducible exact Below.refl _ _) | (with_reducible assumption) | ((with_reducible refine Below.setCell ?_ ?_ _); rotate_left; (focus (first | omega | (simp; done) | (simp; omega)))) | (with_reducible refine Below.drew ?_) | (with_reducible refine below_drewN ?_ _) | ((with_reducible refine Below.alloc ?_ ?_ _); rotate_left; (focus (first | omega | (simp; done) | (simp; omega))))))⟩

set_option maxRecDepth 100000 in
set_option maxHeartbeats 4000000 in
theorem ff_lefts_0_85 (W H : Int) (a : Option Addr) (np cp : Nat) (t s R : Int) (tv lv : Value) (l o : List Int) (w : World) (ht : Reads (Value.int .i64) w tv l) (hl : Reads (Value.int .i64) w lv o) (h : imageFaultF W H np = (0, 0)) (hti : inB t 0 7 = true) (hp : Int.tmod t 2 = 0) (hsi : inB s 3 6 = true) (hR : R = 85) (hl1 : (l.length : Int) = W) (hl2 : ((o.length : Int) != 85 * s) = false) (hok : listOk l = true) (hoo : listOk o = false) :
    Calls Try.prog 17 #[.agg #[.int .i64 W, .int .i64 H, .slice a np cp], .agg #[.int .i64 t, .int .i64 s, .int .i64 R, tv, lv]] w fun e w' => e = .returned (.agg #[.int .i64 6, .int .i64 (-2)]) ∧ Below w.heap.size w w' := by
  have hI := imageFault_any W H a np cp
  rw [h] at hI
  have HI := Lib.hid hI
  have HP1 := Lib.hid (fun wz (hz : Below w.heap.size w wz) => positions_any tv l wz (ht.below hz))
  have HP2 := Lib.hid (fun wz (hz : Below w.heap.size w wz) => positions_any lv o wz (hl.below hz))
  have HTI := Lib.hid hti
  have hpw : IntKind.i64.wrap 0 = 0 := IntWalk.i64_in _ (by omega)
  have HSI := Lib.hid hsi
  have hl1B : ((l.length : Int) == W) = true := by simpa using hl1
  have hwr : IntKind.i64.wrap (85 * s) = 85 * s := IntWalk.i64_in _ (by simp only [inB, Bool.and_eq_true, decide_eq_true_eq] at hsi; omega)
  rw [hok] at HP1
  rw [hoo] at HP2
  subst hR
  obtain ⟨ta, tc, rfl, t1, t2, -⟩ := id ht
  obtain ⟨la, lc, rfl, l1, l2, -⟩ := id hl
  clear hI h ht hl hti hsi hl1 hok hoo
  go_enter Try.func17, Try.ntmps17
  go_wp2_with fail
  generalize hW0 : World.alloc (World.alloc (World.alloc w _) _) _ = W0
  have E0 : FfEnv w #[.int .i64 W, .int .i64 H, .slice a np cp] #[.int .i64 t, .int .i64 s, .int .i64 85, .slice ta l.length tc, .slice la o.length lc] W0 := by
    rw [← hW0]
    exact ⟨(by repeat (first | (with_reducible exact Below.refl _ _) | (with_reducible assumption) | ((with_reducible refine Below.setCell ?_ ?_ _); rotate_left; (focus (first | omega | (simp; done) | (simp; omega)))) | (with_reducible refine Below.drew ?_) | (with_reducible refine below_drewN ?_ _) | ((with_reducible refine Below.alloc ?_ ?_ _); rotate_left; (focus (first | omega | (simp; done) | (simp; omega)))))), ((Blk.new _ _ _).alloc _).alloc _, (Blk.newAt _ _ (by simp)).alloc _, Blk.newAt _ _ (by simp)⟩
  clear hW0
  obtain ⟨k0, k1, k2, kf, klt⟩ := E0.img.d3
  go_wp2_with fail
  refine (HI.out W0).mono ?_
  rintro e w1 ⟨rfl, hb1⟩
  have E1 := E0.keep hb1
  clear k0 k1 k2 kf klt E0 hb1 HI
  obtain ⟨k0, k1, k2, kf, klt⟩ := E1.img.d3
  obtain ⟨g0, g1, g2, g3, g4, gf, glt⟩ := E1.frame.d5
  obtain ⟨f0, f1, ff, flt⟩ := E1.f.d2
  have klt1 : w.heap.size < w1.heap.size + 1 := by omega
  have glt1 : w.heap.size + 1 < w1.heap.size + 1 := by omega
  have flt1 : w.heap.size + 1 + 1 < w1.heap.size + 1 := by omega
  have flt2 : w.heap.size + 1 + 1 < w1.heap.size + 1 + 1 := by omega
  have hB1 := E1.below
  dsimp only
  go_wp2_with (first | (go_at_call 21; (first | (with_reducible refine (in_is HTI.out _).mono ?_) | (with_reducible refine (in_is HSI.out _).mono ?_)); rintro e w' ⟨rfl, rfl⟩) | (go_at_call 12; refine (at_exact _ _ _).mono ?_; rintro e w' ⟨rfl, rfl⟩) | (go_at_call 46; (first | (with_reducible refine (HP1.out _ (binto hB1 (below_alloc _ _))).mono ?_) | (with_reducible refine (HP2.out _ (binto hB1 (below_alloc _ _))).mono ?_)); rintro e w' ⟨rfl, rfl⟩))
  exact bodyPost_ret (v := .agg #[.int .i64 6, .int .i64 (-2)]) (by simp [results, Try.results17, go_sem, f0, f1, ff, flt, flt1, flt2]) rfl ⟨rfl, (by repeat (first | (with_reducible exact Below.refl _ _) | (with_reducible assumption) | ((with_reducible refine Below.setCell ?_ ?_ _); rotate_left; (focus (first | omega | (simp; done) | (simp; omega)))) | (with_reducible refine Below.drew ?_) | (with_reducible refine below_drewN ?_ _) | ((with_reducible refine Below.alloc ?_ ?_ _); rotate_left; (focus (first | omega | (simp; done) | (simp; omega))))))⟩

set_option maxRecDepth 100000 in
set_option maxHeartbeats 4000000 in
theorem ff_ok_0_85 (W H : Int) (a : Option Addr) (np cp : Nat) (t s R : Int) (tv lv : Value) (l o : List Int) (w : World) (ht : Reads (Value.int .i64) w tv l) (hl : Reads (Value.int .i64) w lv o) (h : imageFaultF W H np = (0, 0)) (hti : inB t 0 7 = true) (hp : Int.tmod t 2 = 0) (hsi : inB s 3 6 = true) (hR : R = 85) (hl1 : (l.length : Int) = W) (hl2 : ((o.length : Int) != 85 * s) = false) (hok : listOk l = true) (hoo : listOk o = true) :
    Calls Try.prog 17 #[.agg #[.int .i64 W, .int .i64 H, .slice a np cp], .agg #[.int .i64 t, .int .i64 s, .int .i64 R, tv, lv]] w fun e w' => e = .returned (.agg #[.int .i64 0, .int .i64 (0)]) ∧ Below w.heap.size w w' := by
  have hI := imageFault_any W H a np cp
  rw [h] at hI
  have HI := Lib.hid hI
  have HP1 := Lib.hid (fun wz (hz : Below w.heap.size w wz) => positions_any tv l wz (ht.below hz))
  have HP2 := Lib.hid (fun wz (hz : Below w.heap.size w wz) => positions_any lv o wz (hl.below hz))
  have HTI := Lib.hid hti
  have hpw : IntKind.i64.wrap 0 = 0 := IntWalk.i64_in _ (by omega)
  have HSI := Lib.hid hsi
  have hl1B : ((l.length : Int) == W) = true := by simpa using hl1
  have hwr : IntKind.i64.wrap (85 * s) = 85 * s := IntWalk.i64_in _ (by simp only [inB, Bool.and_eq_true, decide_eq_true_eq] at hsi; omega)
  rw [hok] at HP1
  rw [hoo] at HP2
  subst hR
  obtain ⟨ta, tc, rfl, t1, t2, -⟩ := id ht
  obtain ⟨la, lc, rfl, l1, l2, -⟩ := id hl
  clear hI h ht hl hti hsi hl1 hok hoo
  go_enter Try.func17, Try.ntmps17
  go_wp2_with fail
  generalize hW0 : World.alloc (World.alloc (World.alloc w _) _) _ = W0
  have E0 : FfEnv w #[.int .i64 W, .int .i64 H, .slice a np cp] #[.int .i64 t, .int .i64 s, .int .i64 85, .slice ta l.length tc, .slice la o.length lc] W0 := by
    rw [← hW0]
    exact ⟨(by repeat (first | (with_reducible exact Below.refl _ _) | (with_reducible assumption) | ((with_reducible refine Below.setCell ?_ ?_ _); rotate_left; (focus (first | omega | (simp; done) | (simp; omega)))) | (with_reducible refine Below.drew ?_) | (with_reducible refine below_drewN ?_ _) | ((with_reducible refine Below.alloc ?_ ?_ _); rotate_left; (focus (first | omega | (simp; done) | (simp; omega)))))), ((Blk.new _ _ _).alloc _).alloc _, (Blk.newAt _ _ (by simp)).alloc _, Blk.newAt _ _ (by simp)⟩
  clear hW0
  obtain ⟨k0, k1, k2, kf, klt⟩ := E0.img.d3
  go_wp2_with fail
  refine (HI.out W0).mono ?_
  rintro e w1 ⟨rfl, hb1⟩
  have E1 := E0.keep hb1
  clear k0 k1 k2 kf klt E0 hb1 HI
  obtain ⟨k0, k1, k2, kf, klt⟩ := E1.img.d3
  obtain ⟨g0, g1, g2, g3, g4, gf, glt⟩ := E1.frame.d5
  obtain ⟨f0, f1, ff, flt⟩ := E1.f.d2
  have klt1 : w.heap.size < w1.heap.size + 1 := by omega
  have glt1 : w.heap.size + 1 < w1.heap.size + 1 := by omega
  have flt1 : w.heap.size + 1 + 1 < w1.heap.size + 1 := by omega
  have flt2 : w.heap.size + 1 + 1 < w1.heap.size + 1 + 1 := by omega
  have hB1 := E1.below
  dsimp only
  go_wp2_with (first | (go_at_call 21; (first | (with_reducible refine (in_is HTI.out _).mono ?_) | (with_reducible refine (in_is HSI.out _).mono ?_)); rintro e w' ⟨rfl, rfl⟩) | (go_at_call 12; refine (at_exact _ _ _).mono ?_; rintro e w' ⟨rfl, rfl⟩) | (go_at_call 46; (first | (with_reducible refine (HP1.out _ (binto hB1 (below_alloc _ _))).mono ?_) | (with_reducible refine (HP2.out _ (binto hB1 (below_alloc _ _))).mono ?_)); rintro e w' ⟨rfl, rfl⟩))
  exact bodyPost_ret (v := .agg #[.int .i64 0, .int .i64 (0)]) (by simp [results, Try.results17, go_sem, f0, f1, ff, flt, flt1, flt2]) rfl ⟨rfl, (by repeat (first | (with_reducible exact Below.refl _ _) | (with_reducible assumption) | ((with_reducible refine Below.setCell ?_ ?_ _); rotate_left; (focus (first | omega | (simp; done) | (simp; omega)))) | (with_reducible refine Below.drew ?_) | (with_reducible refine below_drewN ?_ _) | ((with_reducible refine Below.alloc ?_ ?_ _); rotate_left; (focus (first | omega | (simp; done) | (simp; omega))))))⟩

set_option maxRecDepth 100000 in
set_option maxHeartbeats 4000000 in
theorem ff_len1_0_53 (W H : Int) (a : Option Addr) (np cp : Nat) (t s R : Int) (tv lv : Value) (l o : List Int) (w : World) (ht : Reads (Value.int .i64) w tv l) (hl : Reads (Value.int .i64) w lv o) (h : imageFaultF W H np = (0, 0)) (hti : inB t 0 7 = true) (hp : Int.tmod t 2 = 0) (hsi : inB s 3 6 = true) (hR : R = 53) (hl1 : ((l.length : Int) == W) = false) :
    Calls Try.prog 17 #[.agg #[.int .i64 W, .int .i64 H, .slice a np cp], .agg #[.int .i64 t, .int .i64 s, .int .i64 R, tv, lv]] w fun e w' => e = .returned (.agg #[.int .i64 6, .int .i64 (-2)]) ∧ Below w.heap.size w w' := by
  have hI := imageFault_any W H a np cp
  rw [h] at hI
  have HI := Lib.hid hI
  have HP1 := Lib.hid (fun wz (hz : Below w.heap.size w wz) => positions_any tv l wz (ht.below hz))
  have HP2 := Lib.hid (fun wz (hz : Below w.heap.size w wz) => positions_any lv o wz (hl.below hz))
  have HTI := Lib.hid hti
  have hpw : IntKind.i64.wrap 0 = 0 := IntWalk.i64_in _ (by omega)
  have HSI := Lib.hid hsi
  subst hR
  obtain ⟨ta, tc, rfl, t1, t2, -⟩ := id ht
  obtain ⟨la, lc, rfl, l1, l2, -⟩ := id hl
  clear hI h ht hl hti hsi
  go_enter Try.func17, Try.ntmps17
  go_wp2_with fail
  generalize hW0 : World.alloc (World.alloc (World.alloc w _) _) _ = W0
  have E0 : FfEnv w #[.int .i64 W, .int .i64 H, .slice a np cp] #[.int .i64 t, .int .i64 s, .int .i64 53, .slice ta l.length tc, .slice la o.length lc] W0 := by
    rw [← hW0]
    exact ⟨(by repeat (first | (with_reducible exact Below.refl _ _) | (with_reducible assumption) | ((with_reducible refine Below.setCell ?_ ?_ _); rotate_left; (focus (first | omega | (simp; done) | (simp; omega)))) | (with_reducible refine Below.drew ?_) | (with_reducible refine below_drewN ?_ _) | ((with_reducible refine Below.alloc ?_ ?_ _); rotate_left; (focus (first | omega | (simp; done) | (simp; omega)))))), ((Blk.new _ _ _).alloc _).alloc _, (Blk.newAt _ _ (by simp)).alloc _, Blk.newAt _ _ (by simp)⟩
  clear hW0
  obtain ⟨k0, k1, k2, kf, klt⟩ := E0.img.d3
  go_wp2_with fail
  refine (HI.out W0).mono ?_
  rintro e w1 ⟨rfl, hb1⟩
  have E1 := E0.keep hb1
  clear k0 k1 k2 kf klt E0 hb1 HI
  obtain ⟨k0, k1, k2, kf, klt⟩ := E1.img.d3
  obtain ⟨g0, g1, g2, g3, g4, gf, glt⟩ := E1.frame.d5
  obtain ⟨f0, f1, ff, flt⟩ := E1.f.d2
  have klt1 : w.heap.size < w1.heap.size + 1 := by omega
  have glt1 : w.heap.size + 1 < w1.heap.size + 1 := by omega
  have flt1 : w.heap.size + 1 + 1 < w1.heap.size + 1 := by omega
  have flt2 : w.heap.size + 1 + 1 < w1.heap.size + 1 + 1 := by omega
  have hB1 := E1.below
  dsimp only
  go_wp2_with (first | (go_at_call 21; (first | (with_reducible refine (in_is HTI.out _).mono ?_) | (with_reducible refine (in_is HSI.out _).mono ?_)); rintro e w' ⟨rfl, rfl⟩) | (go_at_call 12; refine (at_exact _ _ _).mono ?_; rintro e w' ⟨rfl, rfl⟩) | (go_at_call 46; (first | (with_reducible refine (HP1.out _ (binto hB1 (below_alloc _ _))).mono ?_) | (with_reducible refine (HP2.out _ (binto hB1 (below_alloc _ _))).mono ?_)); rintro e w' ⟨rfl, rfl⟩))
  exact bodyPost_ret (v := .agg #[.int .i64 6, .int .i64 (-2)]) (by simp [results, Try.results17, go_sem, f0, f1, ff, flt, flt1, flt2]) rfl ⟨rfl, (by repeat (first | (with_reducible exact Below.refl _ _) | (with_reducible assumption) | ((with_reducible refine Below.setCell ?_ ?_ _); rotate_left; (focus (first | omega | (simp; done) | (simp; omega)))) | (with_reducible refine Below.drew ?_) | (with_reducible refine below_drewN ?_ _) | ((with_reducible refine Below.alloc ?_ ?_ _); rotate_left; (focus (first | omega | (simp; done) | (simp; omega))))))⟩

set_option maxRecDepth 100000 in
set_option maxHeartbeats 4000000 in
theorem ff_len2_0_53 (W H : Int) (a : Option Addr) (np cp : Nat) (t s R : Int) (tv lv : Value) (l o : List Int) (w : World) (ht : Reads (Value.int .i64) w tv l) (hl : Reads (Value.int .i64) w lv o) (h : imageFaultF W H np = (0, 0)) (hti : inB t 0 7 = true) (hp : Int.tmod t 2 = 0) (hsi : inB s 3 6 = true) (hR : R = 53) (hl1 : (l.length : Int) = W) (hl2 : ((o.length : Int) != 53 * s) = true) :
    Calls Try.prog 17 #[.agg #[.int .i64 W, .int .i64 H, .slice a np cp], .agg #[.int .i64 t, .int .i64 s, .int .i64 R, tv, lv]] w fun e w' => e = .returned (.agg #[.int .i64 6, .int .i64 (-2)]) ∧ Below w.heap.size w w' := by
  have hI := imageFault_any W H a np cp
  rw [h] at hI
  have HI := Lib.hid hI
  have HP1 := Lib.hid (fun wz (hz : Below w.heap.size w wz) => positions_any tv l wz (ht.below hz))
  have HP2 := Lib.hid (fun wz (hz : Below w.heap.size w wz) => positions_any lv o wz (hl.below hz))
  have HTI := Lib.hid hti
  have hpw : IntKind.i64.wrap 0 = 0 := IntWalk.i64_in _ (by omega)
  have HSI := Lib.hid hsi
  have hl1B : ((l.length : Int) == W) = true := by simpa using hl1
  have hwr : IntKind.i64.wrap (53 * s) = 53 * s := IntWalk.i64_in _ (by simp only [inB, Bool.and_eq_true, decide_eq_true_eq] at hsi; omega)
  subst hR
  obtain ⟨ta, tc, rfl, t1, t2, -⟩ := id ht
  obtain ⟨la, lc, rfl, l1, l2, -⟩ := id hl
  clear hI h ht hl hti hsi hl1
  go_enter Try.func17, Try.ntmps17
  go_wp2_with fail
  generalize hW0 : World.alloc (World.alloc (World.alloc w _) _) _ = W0
  have E0 : FfEnv w #[.int .i64 W, .int .i64 H, .slice a np cp] #[.int .i64 t, .int .i64 s, .int .i64 53, .slice ta l.length tc, .slice la o.length lc] W0 := by
    rw [← hW0]
    exact ⟨(by repeat (first | (with_reducible exact Below.refl _ _) | (with_reducible assumption) | ((with_reducible refine Below.setCell ?_ ?_ _); rotate_left; (focus (first | omega | (simp; done) | (simp; omega)))) | (with_reducible refine Below.drew ?_) | (with_reducible refine below_drewN ?_ _) | ((with_reducible refine Below.alloc ?_ ?_ _); rotate_left; (focus (first | omega | (simp; done) | (simp; omega)))))), ((Blk.new _ _ _).alloc _).alloc _, (Blk.newAt _ _ (by simp)).alloc _, Blk.newAt _ _ (by simp)⟩
  clear hW0
  obtain ⟨k0, k1, k2, kf, klt⟩ := E0.img.d3
  go_wp2_with fail
  refine (HI.out W0).mono ?_
  rintro e w1 ⟨rfl, hb1⟩
  have E1 := E0.keep hb1
  clear k0 k1 k2 kf klt E0 hb1 HI
  obtain ⟨k0, k1, k2, kf, klt⟩ := E1.img.d3
  obtain ⟨g0, g1, g2, g3, g4, gf, glt⟩ := E1.frame.d5
  obtain ⟨f0, f1, ff, flt⟩ := E1.f.d2
  have klt1 : w.heap.size < w1.heap.size + 1 := by omega
  have glt1 : w.heap.size + 1 < w1.heap.size + 1 := by omega
  have flt1 : w.heap.size + 1 + 1 < w1.heap.size + 1 := by omega
  have flt2 : w.heap.size + 1 + 1 < w1.heap.size + 1 + 1 := by omega
  have hB1 := E1.below
  dsimp only
  go_wp2_with (first | (go_at_call 21; (first | (with_reducible refine (in_is HTI.out _).mono ?_) | (with_reducible refine (in_is HSI.out _).mono ?_)); rintro e w' ⟨rfl, rfl⟩) | (go_at_call 12; refine (at_exact _ _ _).mono ?_; rintro e w' ⟨rfl, rfl⟩) | (go_at_call 46; (first | (with_reducible refine (HP1.out _ (binto hB1 (below_alloc _ _))).mono ?_) | (with_reducible refine (HP2.out _ (binto hB1 (below_alloc _ _))).mono ?_)); rintro e w' ⟨rfl, rfl⟩))
  exact bodyPost_ret (v := .agg #[.int .i64 6, .int .i64 (-2)]) (by simp [results, Try.results17, go_sem, f0, f1, ff, flt, flt1, flt2]) rfl ⟨rfl, (by repeat (first | (with_reducible exact Below.refl _ _) | (with_reducible assumption) | ((with_reducible refine Below.setCell ?_ ?_ _); rotate_left; (focus (first | omega | (simp; done) | (simp; omega)))) | (with_reducible refine Below.drew ?_) | (with_reducible refine below_drewN ?_ _) | ((with_reducible refine Below.alloc ?_ ?_ _); rotate_left; (focus (first | omega | (simp; done) | (simp; omega))))))⟩

set_option maxRecDepth 100000 in
set_option maxHeartbeats 4000000 in
theorem ff_tops_0_53 (W H : Int) (a : Option Addr) (np cp : Nat) (t s R : Int) (tv lv : Value) (l o : List Int) (w : World) (ht : Reads (Value.int .i64) w tv l) (hl : Reads (Value.int .i64) w lv o) (h : imageFaultF W H np = (0, 0)) (hti : inB t 0 7 = true) (hp : Int.tmod t 2 = 0) (hsi : inB s 3 6 = true) (hR : R = 53) (hl1 : (l.length : Int) = W) (hl2 : ((o.length : Int) != 53 * s) = false) (hok : listOk l = false) :
    Calls Try.prog 17 #[.agg #[.int .i64 W, .int .i64 H, .slice a np cp], .agg #[.int .i64 t, .int .i64 s, .int .i64 R, tv, lv]] w fun e w' => e = .returned (.agg #[.int .i64 6, .int .i64 (-2)]) ∧ Below w.heap.size w w' := by
  have hI := imageFault_any W H a np cp
  rw [h] at hI
  have HI := Lib.hid hI
  have HP1 := Lib.hid (fun wz (hz : Below w.heap.size w wz) => positions_any tv l wz (ht.below hz))
  have HP2 := Lib.hid (fun wz (hz : Below w.heap.size w wz) => positions_any lv o wz (hl.below hz))
  have HTI := Lib.hid hti
  have hpw : IntKind.i64.wrap 0 = 0 := IntWalk.i64_in _ (by omega)
  have HSI := Lib.hid hsi
  have hl1B : ((l.length : Int) == W) = true := by simpa using hl1
  have hwr : IntKind.i64.wrap (53 * s) = 53 * s := IntWalk.i64_in _ (by simp only [inB, Bool.and_eq_true, decide_eq_true_eq] at hsi; omega)
  rw [hok] at HP1
  subst hR
  obtain ⟨ta, tc, rfl, t1, t2, -⟩ := id ht
  obtain ⟨la, lc, rfl, l1, l2, -⟩ := id hl
  clear hI h ht hl hti hsi hl1 hok
  go_enter Try.func17, Try.ntmps17
  go_wp2_with fail
  generalize hW0 : World.alloc (World.alloc (World.alloc w _) _) _ = W0
  have E0 : FfEnv w #[.int .i64 W, .int .i64 H, .slice a np cp] #[.int .i64 t, .int .i64 s, .int .i64 53, .slice ta l.length tc, .slice la o.length lc] W0 := by
    rw [← hW0]
    exact ⟨(by repeat (first | (with_reducible exact Below.refl _ _) | (with_reducible assumption) | ((with_reducible refine Below.setCell ?_ ?_ _); rotate_left; (focus (first | omega | (simp; done) | (simp; omega)))) | (with_reducible refine Below.drew ?_) | (with_reducible refine below_drewN ?_ _) | ((with_reducible refine Below.alloc ?_ ?_ _); rotate_left; (focus (first | omega | (simp; done) | (simp; omega)))))), ((Blk.new _ _ _).alloc _).alloc _, (Blk.newAt _ _ (by simp)).alloc _, Blk.newAt _ _ (by simp)⟩
  clear hW0
  obtain ⟨k0, k1, k2, kf, klt⟩ := E0.img.d3
  go_wp2_with fail
  refine (HI.out W0).mono ?_
  rintro e w1 ⟨rfl, hb1⟩
  have E1 := E0.keep hb1
  clear k0 k1 k2 kf klt E0 hb1 HI
  obtain ⟨k0, k1, k2, kf, klt⟩ := E1.img.d3
  obtain ⟨g0, g1, g2, g3, g4, gf, glt⟩ := E1.frame.d5
  obtain ⟨f0, f1, ff, flt⟩ := E1.f.d2
  have klt1 : w.heap.size < w1.heap.size + 1 := by omega
  have glt1 : w.heap.size + 1 < w1.heap.size + 1 := by omega
  have flt1 : w.heap.size + 1 + 1 < w1.heap.size + 1 := by omega
  have flt2 : w.heap.size + 1 + 1 < w1.heap.size + 1 + 1 := by omega
  have hB1 := E1.below
  dsimp only
  go_wp2_with (first | (go_at_call 21; (first | (with_reducible refine (in_is HTI.out _).mono ?_) | (with_reducible refine (in_is HSI.out _).mono ?_)); rintro e w' ⟨rfl, rfl⟩) | (go_at_call 12; refine (at_exact _ _ _).mono ?_; rintro e w' ⟨rfl, rfl⟩) | (go_at_call 46; (first | (with_reducible refine (HP1.out _ (binto hB1 (below_alloc _ _))).mono ?_) | (with_reducible refine (HP2.out _ (binto hB1 (below_alloc _ _))).mono ?_)); rintro e w' ⟨rfl, rfl⟩))
  exact bodyPost_ret (v := .agg #[.int .i64 6, .int .i64 (-2)]) (by simp [results, Try.results17, go_sem, f0, f1, ff, flt, flt1, flt2]) rfl ⟨rfl, (by repeat (first | (with_reducible exact Below.refl _ _) | (with_reducible assumption) | ((with_reducible refine Below.setCell ?_ ?_ _); rotate_left; (focus (first | omega | (simp; done) | (simp; omega)))) | (with_reducible refine Below.drew ?_) | (with_reducible refine below_drewN ?_ _) | ((with_reducible refine Below.alloc ?_ ?_ _); rotate_left; (focus (first | omega | (simp; done) | (simp; omega))))))⟩

set_option maxRecDepth 100000 in
set_option maxHeartbeats 4000000 in
theorem ff_lefts_0_53 (W H : Int) (a : Option Addr) (np cp : Nat) (t s R : Int) (tv lv : Value) (l o : List Int) (w : World) (ht : Reads (Value.int .i64) w tv l) (hl : Reads (Value.int .i64) w lv o) (h : imageFaultF W H np = (0, 0)) (hti : inB t 0 7 = true) (hp : Int.tmod t 2 = 0) (hsi : inB s 3 6 = true) (hR : R = 53) (hl1 : (l.length : Int) = W) (hl2 : ((o.length : Int) != 53 * s) = false) (hok : listOk l = true) (hoo : listOk o = false) :
    Calls Try.prog 17 #[.agg #[.int .i64 W, .int .i64 H, .slice a np cp], .agg #[.int .i64 t, .int .i64 s, .int .i64 R, tv, lv]] w fun e w' => e = .returned (.agg #[.int .i64 6, .int .i64 (-2)]) ∧ Below w.heap.size w w' := by
  have hI := imageFault_any W H a np cp
  rw [h] at hI
  have HI := Lib.hid hI
  have HP1 := Lib.hid (fun wz (hz : Below w.heap.size w wz) => positions_any tv l wz (ht.below hz))
  have HP2 := Lib.hid (fun wz (hz : Below w.heap.size w wz) => positions_any lv o wz (hl.below hz))
  have HTI := Lib.hid hti
  have hpw : IntKind.i64.wrap 0 = 0 := IntWalk.i64_in _ (by omega)
  have HSI := Lib.hid hsi
  have hl1B : ((l.length : Int) == W) = true := by simpa using hl1
  have hwr : IntKind.i64.wrap (53 * s) = 53 * s := IntWalk.i64_in _ (by simp only [inB, Bool.and_eq_true, decide_eq_true_eq] at hsi; omega)
  rw [hok] at HP1
  rw [hoo] at HP2
  subst hR
  obtain ⟨ta, tc, rfl, t1, t2, -⟩ := id ht
  obtain ⟨la, lc, rfl, l1, l2, -⟩ := id hl
  clear hI h ht hl hti hsi hl1 hok hoo
  go_enter Try.func17, Try.ntmps17
  go_wp2_with fail
  generalize hW0 : World.alloc (World.alloc (World.alloc w _) _) _ = W0
  have E0 : FfEnv w #[.int .i64 W, .int .i64 H, .slice a np cp] #[.int .i64 t, .int .i64 s, .int .i64 53, .slice ta l.length tc, .slice la o.length lc] W0 := by
    rw [← hW0]
    exact ⟨(by repeat (first | (with_reducible exact Below.refl _ _) | (with_reducible assumption) | ((with_reducible refine Below.setCell ?_ ?_ _); rotate_left; (focus (first | omega | (simp; done) | (simp; omega)))) | (with_reducible refine Below.drew ?_) | (with_reducible refine below_drewN ?_ _) | ((with_reducible refine Below.alloc ?_ ?_ _); rotate_left; (focus (first | omega | (simp; done) | (simp; omega)))))), ((Blk.new _ _ _).alloc _).alloc _, (Blk.newAt _ _ (by simp)).alloc _, Blk.newAt _ _ (by simp)⟩
  clear hW0
  obtain ⟨k0, k1, k2, kf, klt⟩ := E0.img.d3
  go_wp2_with fail
  refine (HI.out W0).mono ?_
  rintro e w1 ⟨rfl, hb1⟩
  have E1 := E0.keep hb1
  clear k0 k1 k2 kf klt E0 hb1 HI
  obtain ⟨k0, k1, k2, kf, klt⟩ := E1.img.d3
  obtain ⟨g0, g1, g2, g3, g4, gf, glt⟩ := E1.frame.d5
  obtain ⟨f0, f1, ff, flt⟩ := E1.f.d2
  have klt1 : w.heap.size < w1.heap.size + 1 := by omega
  have glt1 : w.heap.size + 1 < w1.heap.size + 1 := by omega
  have flt1 : w.heap.size + 1 + 1 < w1.heap.size + 1 := by omega
  have flt2 : w.heap.size + 1 + 1 < w1.heap.size + 1 + 1 := by omega
  have hB1 := E1.below
  dsimp only
  go_wp2_with (first | (go_at_call 21; (first | (with_reducible refine (in_is HTI.out _).mono ?_) | (with_reducible refine (in_is HSI.out _).mono ?_)); rintro e w' ⟨rfl, rfl⟩) | (go_at_call 12; refine (at_exact _ _ _).mono ?_; rintro e w' ⟨rfl, rfl⟩) | (go_at_call 46; (first | (with_reducible refine (HP1.out _ (binto hB1 (below_alloc _ _))).mono ?_) | (with_reducible refine (HP2.out _ (binto hB1 (below_alloc _ _))).mono ?_)); rintro e w' ⟨rfl, rfl⟩))
  exact bodyPost_ret (v := .agg #[.int .i64 6, .int .i64 (-2)]) (by simp [results, Try.results17, go_sem, f0, f1, ff, flt, flt1, flt2]) rfl ⟨rfl, (by repeat (first | (with_reducible exact Below.refl _ _) | (with_reducible assumption) | ((with_reducible refine Below.setCell ?_ ?_ _); rotate_left; (focus (first | omega | (simp; done) | (simp; omega)))) | (with_reducible refine Below.drew ?_) | (with_reducible refine below_drewN ?_ _) | ((with_reducible refine Below.alloc ?_ ?_ _); rotate_left; (focus (first | omega | (simp; done) | (simp; omega))))))⟩

set_option maxRecDepth 100000 in
set_option maxHeartbeats 4000000 in
theorem ff_ok_0_53 (W H : Int) (a : Option Addr) (np cp : Nat) (t s R : Int) (tv lv : Value) (l o : List Int) (w : World) (ht : Reads (Value.int .i64) w tv l) (hl : Reads (Value.int .i64) w lv o) (h : imageFaultF W H np = (0, 0)) (hti : inB t 0 7 = true) (hp : Int.tmod t 2 = 0) (hsi : inB s 3 6 = true) (hR : R = 53) (hl1 : (l.length : Int) = W) (hl2 : ((o.length : Int) != 53 * s) = false) (hok : listOk l = true) (hoo : listOk o = true) :
    Calls Try.prog 17 #[.agg #[.int .i64 W, .int .i64 H, .slice a np cp], .agg #[.int .i64 t, .int .i64 s, .int .i64 R, tv, lv]] w fun e w' => e = .returned (.agg #[.int .i64 0, .int .i64 (0)]) ∧ Below w.heap.size w w' := by
  have hI := imageFault_any W H a np cp
  rw [h] at hI
  have HI := Lib.hid hI
  have HP1 := Lib.hid (fun wz (hz : Below w.heap.size w wz) => positions_any tv l wz (ht.below hz))
  have HP2 := Lib.hid (fun wz (hz : Below w.heap.size w wz) => positions_any lv o wz (hl.below hz))
  have HTI := Lib.hid hti
  have hpw : IntKind.i64.wrap 0 = 0 := IntWalk.i64_in _ (by omega)
  have HSI := Lib.hid hsi
  have hl1B : ((l.length : Int) == W) = true := by simpa using hl1
  have hwr : IntKind.i64.wrap (53 * s) = 53 * s := IntWalk.i64_in _ (by simp only [inB, Bool.and_eq_true, decide_eq_true_eq] at hsi; omega)
  rw [hok] at HP1
  rw [hoo] at HP2
  subst hR
  obtain ⟨ta, tc, rfl, t1, t2, -⟩ := id ht
  obtain ⟨la, lc, rfl, l1, l2, -⟩ := id hl
  clear hI h ht hl hti hsi hl1 hok hoo
  go_enter Try.func17, Try.ntmps17
  go_wp2_with fail
  generalize hW0 : World.alloc (World.alloc (World.alloc w _) _) _ = W0
  have E0 : FfEnv w #[.int .i64 W, .int .i64 H, .slice a np cp] #[.int .i64 t, .int .i64 s, .int .i64 53, .slice ta l.length tc, .slice la o.length lc] W0 := by
    rw [← hW0]
    exact ⟨(by repeat (first | (with_reducible exact Below.refl _ _) | (with_reducible assumption) | ((with_reducible refine Below.setCell ?_ ?_ _); rotate_left; (focus (first | omega | (simp; done) | (simp; omega)))) | (with_reducible refine Below.drew ?_) | (with_reducible refine below_drewN ?_ _) | ((with_reducible refine Below.alloc ?_ ?_ _); rotate_left; (focus (first | omega | (simp; done) | (simp; omega)))))), ((Blk.new _ _ _).alloc _).alloc _, (Blk.newAt _ _ (by simp)).alloc _, Blk.newAt _ _ (by simp)⟩
  clear hW0
  obtain ⟨k0, k1, k2, kf, klt⟩ := E0.img.d3
  go_wp2_with fail
  refine (HI.out W0).mono ?_
  rintro e w1 ⟨rfl, hb1⟩
  have E1 := E0.keep hb1
  clear k0 k1 k2 kf klt E0 hb1 HI
  obtain ⟨k0, k1, k2, kf, klt⟩ := E1.img.d3
  obtain ⟨g0, g1, g2, g3, g4, gf, glt⟩ := E1.frame.d5
  obtain ⟨f0, f1, ff, flt⟩ := E1.f.d2
  have klt1 : w.heap.size < w1.heap.size + 1 := by omega
  have glt1 : w.heap.size + 1 < w1.heap.size + 1 := by omega
  have flt1 : w.heap.size + 1 + 1 < w1.heap.size + 1 := by omega
  have flt2 : w.heap.size + 1 + 1 < w1.heap.size + 1 + 1 := by omega
  have hB1 := E1.below
  dsimp only
  go_wp2_with (first | (go_at_call 21; (first | (with_reducible refine (in_is HTI.out _).mono ?_) | (with_reducible refine (in_is HSI.out _).mono ?_)); rintro e w' ⟨rfl, rfl⟩) | (go_at_call 12; refine (at_exact _ _ _).mono ?_; rintro e w' ⟨rfl, rfl⟩) | (go_at_call 46; (first | (with_reducible refine (HP1.out _ (binto hB1 (below_alloc _ _))).mono ?_) | (with_reducible refine (HP2.out _ (binto hB1 (below_alloc _ _))).mono ?_)); rintro e w' ⟨rfl, rfl⟩))
  exact bodyPost_ret (v := .agg #[.int .i64 0, .int .i64 (0)]) (by simp [results, Try.results17, go_sem, f0, f1, ff, flt, flt1, flt2]) rfl ⟨rfl, (by repeat (first | (with_reducible exact Below.refl _ _) | (with_reducible assumption) | ((with_reducible refine Below.setCell ?_ ?_ _); rotate_left; (focus (first | omega | (simp; done) | (simp; omega)))) | (with_reducible refine Below.drew ?_) | (with_reducible refine below_drewN ?_ _) | ((with_reducible refine Below.alloc ?_ ?_ _); rotate_left; (focus (first | omega | (simp; done) | (simp; omega))))))⟩

set_option maxRecDepth 100000 in
set_option maxHeartbeats 4000000 in
theorem ff_scale1 (W H : Int) (a : Option Addr) (np cp : Nat) (t s R : Int) (tv lv : Value) (l o : List Int) (w : World) (ht : Reads (Value.int .i64) w tv l) (hl : Reads (Value.int .i64) w lv o) (h : imageFaultF W H np = (0, 0)) (hti : inB t 0 7 = true) (hp : Int.tmod t 2 = 1) (hsi : inB s 3 6 = false) :
    Calls Try.prog 17 #[.agg #[.int .i64 W, .int .i64 H, .slice a np cp], .agg #[.int .i64 t, .int .i64 s, .int .i64 R, tv, lv]] w fun e w' => e = .returned (.agg #[.int .i64 6, .int .i64 (-2)]) ∧ Below w.heap.size w w' := by
  have hI := imageFault_any W H a np cp
  rw [h] at hI
  have HI := Lib.hid hI
  have HP1 := Lib.hid (fun wz (hz : Below w.heap.size w wz) => positions_any tv l wz (ht.below hz))
  have HP2 := Lib.hid (fun wz (hz : Below w.heap.size w wz) => positions_any lv o wz (hl.below hz))
  have HTI := Lib.hid hti
  have hpw : IntKind.i64.wrap 1 = 1 := IntWalk.i64_in _ (by omega)
  have HSI := Lib.hid hsi
  obtain ⟨ta, tc, rfl, t1, t2, -⟩ := id ht
  obtain ⟨la, lc, rfl, l1, l2, -⟩ := id hl
  clear hI h ht hl hti hsi
  go_enter Try.func17, Try.ntmps17
  go_wp2_with fail
  generalize hW0 : World.alloc (World.alloc (World.alloc w _) _) _ = W0
  have E0 : FfEnv w #[.int .i64 W, .int .i64 H, .slice a np cp] #[.int .i64 t, .int .i64 s, .int .i64 R, .slice ta l.length tc, .slice la o.length lc] W0 := by
    rw [← hW0]
    exact ⟨(by repeat (first | (with_reducible exact Below.refl _ _) | (with_reducible assumption) | ((with_reducible refine Below.setCell ?_ ?_ _); rotate_left; (focus (first | omega | (simp; done) | (simp; omega)))) | (with_reducible refine Below.drew ?_) | (with_reducible refine below_drewN ?_ _) | ((with_reducible refine Below.alloc ?_ ?_ _); rotate_left; (focus (first | omega | (simp; done) | (simp; omega)))))), ((Blk.new _ _ _).alloc _).alloc _, (Blk.newAt _ _ (by simp)).alloc _, Blk.newAt _ _ (by simp)⟩
  clear hW0
  obtain ⟨k0, k1, k2, kf, klt⟩ := E0.img.d3
  go_wp2_with fail
  refine (HI.out W0).mono ?_
  rintro e w1 ⟨rfl, hb1⟩
  have E1 := E0.keep hb1
  clear k0 k1 k2 kf klt E0 hb1 HI
  obtain ⟨k0, k1, k2, kf, klt⟩ := E1.img.d3
  obtain ⟨g0, g1, g2, g3, g4, gf, glt⟩ := E1.frame.d5
  obtain ⟨f0, f1, ff, flt⟩ := E1.f.d2
  have klt1 : w.heap.size < w1.heap.size + 1 := by omega
  have glt1 : w.heap.size + 1 < w1.heap.size + 1 := by omega
  have flt1 : w.heap.size + 1 + 1 < w1.heap.size + 1 := by omega
  have flt2 : w.heap.size + 1 + 1 < w1.heap.size + 1 + 1 := by omega
  have hB1 := E1.below
  dsimp only
  go_wp2_with (first | (go_at_call 21; (first | (with_reducible refine (in_is HTI.out _).mono ?_) | (with_reducible refine (in_is HSI.out _).mono ?_)); rintro e w' ⟨rfl, rfl⟩) | (go_at_call 12; refine (at_exact _ _ _).mono ?_; rintro e w' ⟨rfl, rfl⟩) | (go_at_call 46; (first | (with_reducible refine (HP1.out _ (binto hB1 (below_alloc _ _))).mono ?_) | (with_reducible refine (HP2.out _ (binto hB1 (below_alloc _ _))).mono ?_)); rintro e w' ⟨rfl, rfl⟩))
  exact bodyPost_ret (v := .agg #[.int .i64 6, .int .i64 (-2)]) (by simp [results, Try.results17, go_sem, f0, f1, ff, flt, flt1, flt2]) rfl ⟨rfl, (by repeat (first | (with_reducible exact Below.refl _ _) | (with_reducible assumption) | ((with_reducible refine Below.setCell ?_ ?_ _); rotate_left; (focus (first | omega | (simp; done) | (simp; omega)))) | (with_reducible refine Below.drew ?_) | (with_reducible refine below_drewN ?_ _) | ((with_reducible refine Below.alloc ?_ ?_ _); rotate_left; (focus (first | omega | (simp; done) | (simp; omega))))))⟩

set_option maxRecDepth 100000 in
set_option maxHeartbeats 4000000 in
theorem ff_rows1 (W H : Int) (a : Option Addr) (np cp : Nat) (t s R : Int) (tv lv : Value) (l o : List Int) (w : World) (ht : Reads (Value.int .i64) w tv l) (hl : Reads (Value.int .i64) w lv o) (h : imageFaultF W H np = (0, 0)) (hti : inB t 0 7 = true) (hp : Int.tmod t 2 = 1) (hsi : inB s 3 6 = true) (hr1 : (R == 85) = false) (hr2 : (R == 53) = false) :
    Calls Try.prog 17 #[.agg #[.int .i64 W, .int .i64 H, .slice a np cp], .agg #[.int .i64 t, .int .i64 s, .int .i64 R, tv, lv]] w fun e w' => e = .returned (.agg #[.int .i64 6, .int .i64 (-2)]) ∧ Below w.heap.size w w' := by
  have hI := imageFault_any W H a np cp
  rw [h] at hI
  have HI := Lib.hid hI
  have HP1 := Lib.hid (fun wz (hz : Below w.heap.size w wz) => positions_any tv l wz (ht.below hz))
  have HP2 := Lib.hid (fun wz (hz : Below w.heap.size w wz) => positions_any lv o wz (hl.below hz))
  have HTI := Lib.hid hti
  have hpw : IntKind.i64.wrap 1 = 1 := IntWalk.i64_in _ (by omega)
  have HSI := Lib.hid hsi
  obtain ⟨ta, tc, rfl, t1, t2, -⟩ := id ht
  obtain ⟨la, lc, rfl, l1, l2, -⟩ := id hl
  clear hI h ht hl hti hsi
  go_enter Try.func17, Try.ntmps17
  go_wp2_with fail
  generalize hW0 : World.alloc (World.alloc (World.alloc w _) _) _ = W0
  have E0 : FfEnv w #[.int .i64 W, .int .i64 H, .slice a np cp] #[.int .i64 t, .int .i64 s, .int .i64 R, .slice ta l.length tc, .slice la o.length lc] W0 := by
    rw [← hW0]
    exact ⟨(by repeat (first | (with_reducible exact Below.refl _ _) | (with_reducible assumption) | ((with_reducible refine Below.setCell ?_ ?_ _); rotate_left; (focus (first | omega | (simp; done) | (simp; omega)))) | (with_reducible refine Below.drew ?_) | (with_reducible refine below_drewN ?_ _) | ((with_reducible refine Below.alloc ?_ ?_ _); rotate_left; (focus (first | omega | (simp; done) | (simp; omega)))))), ((Blk.new _ _ _).alloc _).alloc _, (Blk.newAt _ _ (by simp)).alloc _, Blk.newAt _ _ (by simp)⟩
  clear hW0
  obtain ⟨k0, k1, k2, kf, klt⟩ := E0.img.d3
  go_wp2_with fail
  refine (HI.out W0).mono ?_
  rintro e w1 ⟨rfl, hb1⟩
  have E1 := E0.keep hb1
  clear k0 k1 k2 kf klt E0 hb1 HI
  obtain ⟨k0, k1, k2, kf, klt⟩ := E1.img.d3
  obtain ⟨g0, g1, g2, g3, g4, gf, glt⟩ := E1.frame.d5
  obtain ⟨f0, f1, ff, flt⟩ := E1.f.d2
  have klt1 : w.heap.size < w1.heap.size + 1 := by omega
  have glt1 : w.heap.size + 1 < w1.heap.size + 1 := by omega
  have flt1 : w.heap.size + 1 + 1 < w1.heap.size + 1 := by omega
  have flt2 : w.heap.size + 1 + 1 < w1.heap.size + 1 + 1 := by omega
  have hB1 := E1.below
  dsimp only
  go_wp2_with (first | (go_at_call 21; (first | (with_reducible refine (in_is HTI.out _).mono ?_) | (with_reducible refine (in_is HSI.out _).mono ?_)); rintro e w' ⟨rfl, rfl⟩) | (go_at_call 12; refine (at_exact _ _ _).mono ?_; rintro e w' ⟨rfl, rfl⟩) | (go_at_call 46; (first | (with_reducible refine (HP1.out _ (binto hB1 (below_alloc _ _))).mono ?_) | (with_reducible refine (HP2.out _ (binto hB1 (below_alloc _ _))).mono ?_)); rintro e w' ⟨rfl, rfl⟩))
  exact bodyPost_ret (v := .agg #[.int .i64 6, .int .i64 (-2)]) (by simp [results, Try.results17, go_sem, f0, f1, ff, flt, flt1, flt2]) rfl ⟨rfl, (by repeat (first | (with_reducible exact Below.refl _ _) | (with_reducible assumption) | ((with_reducible refine Below.setCell ?_ ?_ _); rotate_left; (focus (first | omega | (simp; done) | (simp; omega)))) | (with_reducible refine Below.drew ?_) | (with_reducible refine below_drewN ?_ _) | ((with_reducible refine Below.alloc ?_ ?_ _); rotate_left; (focus (first | omega | (simp; done) | (simp; omega))))))⟩

set_option maxRecDepth 100000 in
set_option maxHeartbeats 4000000 in
theorem ff_len1_1_85 (W H : Int) (a : Option Addr) (np cp : Nat) (t s R : Int) (tv lv : Value) (l o : List Int) (w : World) (ht : Reads (Value.int .i64) w tv l) (hl : Reads (Value.int .i64) w lv o) (h : imageFaultF W H np = (0, 0)) (hti : inB t 0 7 = true) (hp : Int.tmod t 2 = 1) (hsi : inB s 3 6 = true) (hR : R = 85) (hl1 : ((l.length : Int) == H) = false) :
    Calls Try.prog 17 #[.agg #[.int .i64 W, .int .i64 H, .slice a np cp], .agg #[.int .i64 t, .int .i64 s, .int .i64 R, tv, lv]] w fun e w' => e = .returned (.agg #[.int .i64 6, .int .i64 (-2)]) ∧ Below w.heap.size w w' := by
  have hI := imageFault_any W H a np cp
  rw [h] at hI
  have HI := Lib.hid hI
  have HP1 := Lib.hid (fun wz (hz : Below w.heap.size w wz) => positions_any tv l wz (ht.below hz))
  have HP2 := Lib.hid (fun wz (hz : Below w.heap.size w wz) => positions_any lv o wz (hl.below hz))
  have HTI := Lib.hid hti
  have hpw : IntKind.i64.wrap 1 = 1 := IntWalk.i64_in _ (by omega)
  have HSI := Lib.hid hsi
  subst hR
  obtain ⟨ta, tc, rfl, t1, t2, -⟩ := id ht
  obtain ⟨la, lc, rfl, l1, l2, -⟩ := id hl
  clear hI h ht hl hti hsi
  go_enter Try.func17, Try.ntmps17
  go_wp2_with fail
  generalize hW0 : World.alloc (World.alloc (World.alloc w _) _) _ = W0
  have E0 : FfEnv w #[.int .i64 W, .int .i64 H, .slice a np cp] #[.int .i64 t, .int .i64 s, .int .i64 85, .slice ta l.length tc, .slice la o.length lc] W0 := by
    rw [← hW0]
    exact ⟨(by repeat (first | (with_reducible exact Below.refl _ _) | (with_reducible assumption) | ((with_reducible refine Below.setCell ?_ ?_ _); rotate_left; (focus (first | omega | (simp; done) | (simp; omega)))) | (with_reducible refine Below.drew ?_) | (with_reducible refine below_drewN ?_ _) | ((with_reducible refine Below.alloc ?_ ?_ _); rotate_left; (focus (first | omega | (simp; done) | (simp; omega)))))), ((Blk.new _ _ _).alloc _).alloc _, (Blk.newAt _ _ (by simp)).alloc _, Blk.newAt _ _ (by simp)⟩
  clear hW0
  obtain ⟨k0, k1, k2, kf, klt⟩ := E0.img.d3
  go_wp2_with fail
  refine (HI.out W0).mono ?_
  rintro e w1 ⟨rfl, hb1⟩
  have E1 := E0.keep hb1
  clear k0 k1 k2 kf klt E0 hb1 HI
  obtain ⟨k0, k1, k2, kf, klt⟩ := E1.img.d3
  obtain ⟨g0, g1, g2, g3, g4, gf, glt⟩ := E1.frame.d5
  obtain ⟨f0, f1, ff, flt⟩ := E1.f.d2
  have klt1 : w.heap.size < w1.heap.size + 1 := by omega
  have glt1 : w.heap.size + 1 < w1.heap.size + 1 := by omega
  have flt1 : w.heap.size + 1 + 1 < w1.heap.size + 1 := by omega
  have flt2 : w.heap.size + 1 + 1 < w1.heap.size + 1 + 1 := by omega
  have hB1 := E1.below
  dsimp only
  go_wp2_with (first | (go_at_call 21; (first | (with_reducible refine (in_is HTI.out _).mono ?_) | (with_reducible refine (in_is HSI.out _).mono ?_)); rintro e w' ⟨rfl, rfl⟩) | (go_at_call 12; refine (at_exact _ _ _).mono ?_; rintro e w' ⟨rfl, rfl⟩) | (go_at_call 46; (first | (with_reducible refine (HP1.out _ (binto hB1 (below_alloc _ _))).mono ?_) | (with_reducible refine (HP2.out _ (binto hB1 (below_alloc _ _))).mono ?_)); rintro e w' ⟨rfl, rfl⟩))
  exact bodyPost_ret (v := .agg #[.int .i64 6, .int .i64 (-2)]) (by simp [results, Try.results17, go_sem, f0, f1, ff, flt, flt1, flt2]) rfl ⟨rfl, (by repeat (first | (with_reducible exact Below.refl _ _) | (with_reducible assumption) | ((with_reducible refine Below.setCell ?_ ?_ _); rotate_left; (focus (first | omega | (simp; done) | (simp; omega)))) | (with_reducible refine Below.drew ?_) | (with_reducible refine below_drewN ?_ _) | ((with_reducible refine Below.alloc ?_ ?_ _); rotate_left; (focus (first | omega | (simp; done) | (simp; omega))))))⟩

set_option maxRecDepth 100000 in
set_option maxHeartbeats 4000000 in
theorem ff_len2_1_85 (W H : Int) (a : Option Addr) (np cp : Nat) (t s R : Int) (tv lv : Value) (l o : List Int) (w : World) (ht : Reads (Value.int .i64) w tv l) (hl : Reads (Value.int .i64) w lv o) (h : imageFaultF W H np = (0, 0)) (hti : inB t 0 7 = true) (hp : Int.tmod t 2 = 1) (hsi : inB s 3 6 = true) (hR : R = 85) (hl1 : (l.length : Int) = H) (hl2 : ((o.length : Int) != 85 * s) = true) :
    Calls Try.prog 17 #[.agg #[.int .i64 W, .int .i64 H, .slice a np cp], .agg #[.int .i64 t, .int .i64 s, .int .i64 R, tv, lv]] w fun e w' => e = .returned (.agg #[.int .i64 6, .int .i64 (-2)]) ∧ Below w.heap.size w w' := by
  have hI := imageFault_any W H a np cp
  rw [h] at hI
  have HI := Lib.hid hI
  have HP1 := Lib.hid (fun wz (hz : Below w.heap.size w wz) => positions_any tv l wz (ht.below hz))
  have HP2 := Lib.hid (fun wz (hz : Below w.heap.size w wz) => positions_any lv o wz (hl.below hz))
  have HTI := Lib.hid hti
  have hpw : IntKind.i64.wrap 1 = 1 := IntWalk.i64_in _ (by omega)
  have HSI := Lib.hid hsi
  have hl1B : ((l.length : Int) == H) = true := by simpa using hl1
  have hwr : IntKind.i64.wrap (85 * s) = 85 * s := IntWalk.i64_in _ (by simp only [inB, Bool.and_eq_true, decide_eq_true_eq] at hsi; omega)
  subst hR
  obtain ⟨ta, tc, rfl, t1, t2, -⟩ := id ht
  obtain ⟨la, lc, rfl, l1, l2, -⟩ := id hl
  clear hI h ht hl hti hsi hl1
  go_enter Try.func17, Try.ntmps17
  go_wp2_with fail
  generalize hW0 : World.alloc (World.alloc (World.alloc w _) _) _ = W0
  have E0 : FfEnv w #[.int .i64 W, .int .i64 H, .slice a np cp] #[.int .i64 t, .int .i64 s, .int .i64 85, .slice ta l.length tc, .slice la o.length lc] W0 := by
    rw [← hW0]
    exact ⟨(by repeat (first | (with_reducible exact Below.refl _ _) | (with_reducible assumption) | ((with_reducible refine Below.setCell ?_ ?_ _); rotate_left; (focus (first | omega | (simp; done) | (simp; omega)))) | (with_reducible refine Below.drew ?_) | (with_reducible refine below_drewN ?_ _) | ((with_reducible refine Below.alloc ?_ ?_ _); rotate_left; (focus (first | omega | (simp; done) | (simp; omega)))))), ((Blk.new _ _ _).alloc _).alloc _, (Blk.newAt _ _ (by simp)).alloc _, Blk.newAt _ _ (by simp)⟩
  clear hW0
  obtain ⟨k0, k1, k2, kf, klt⟩ := E0.img.d3
  go_wp2_with fail
  refine (HI.out W0).mono ?_
  rintro e w1 ⟨rfl, hb1⟩
  have E1 := E0.keep hb1
  clear k0 k1 k2 kf klt E0 hb1 HI
  obtain ⟨k0, k1, k2, kf, klt⟩ := E1.img.d3
  obtain ⟨g0, g1, g2, g3, g4, gf, glt⟩ := E1.frame.d5
  obtain ⟨f0, f1, ff, flt⟩ := E1.f.d2
  have klt1 : w.heap.size < w1.heap.size + 1 := by omega
  have glt1 : w.heap.size + 1 < w1.heap.size + 1 := by omega
  have flt1 : w.heap.size + 1 + 1 < w1.heap.size + 1 := by omega
  have flt2 : w.heap.size + 1 + 1 < w1.heap.size + 1 + 1 := by omega
  have hB1 := E1.below
  dsimp only
  go_wp2_with (first | (go_at_call 21; (first | (with_reducible refine (in_is HTI.out _).mono ?_) | (with_reducible refine (in_is HSI.out _).mono ?_)); rintro e w' ⟨rfl, rfl⟩) | (go_at_call 12; refine (at_exact _ _ _).mono ?_; rintro e w' ⟨rfl, rfl⟩) | (go_at_call 46; (first | (with_reducible refine (HP1.out _ (binto hB1 (below_alloc _ _))).mono ?_) | (with_reducible refine (HP2.out _ (binto hB1 (below_alloc _ _))).mono ?_)); rintro e w' ⟨rfl, rfl⟩))
  exact bodyPost_ret (v := .agg #[.int .i64 6, .int .i64 (-2)]) (by simp [results, Try.results17, go_sem, f0, f1, ff, flt, flt1, flt2]) rfl ⟨rfl, (by repeat (first | (with_reducible exact Below.refl _ _) | (with_reducible assumption) | ((with_reducible refine Below.setCell ?_ ?_ _); rotate_left; (focus (first | omega | (simp; done) | (simp; omega)))) | (with_reducible refine Below.drew ?_) | (with_reducible refine below_drewN ?_ _) | ((with_reducible refine Below.alloc ?_ ?_ _); rotate_left; (focus (first | omega | (simp; done) | (simp; omega))))))⟩

set_option maxRecDepth 100000 in
set_option maxHeartbeats 4000000 in
theorem ff_tops_1_85 (W H : Int) (a : Option Addr) (np cp : Nat) (t s R : Int) (tv lv : Value) (l o : List Int) (w : World) (ht : Reads (Value.int .i64) w tv l) (hl : Reads (Value.int .i64) w lv o) (h : imageFaultF W H np = (0, 0)) (hti : inB t 0 7 = true) (hp : Int.tmod t 2 = 1) (hsi : inB s 3 6 = true) (hR : R = 85) (hl1 : (l.length : Int) = H) (hl2 : ((o.length : Int) != 85 * s) = false) (hok : listOk l = false) :
    Calls Try.prog 17 #[.agg #[.int .i64 W, .int .i64 H, .slice a np cp], .agg #[.int .i64 t, .int .i64 s, .int .i64 R, tv, lv]] w fun e w' => e = .returned (.agg #[.int .i64 6, .int .i64 (-2)]) ∧ Below w.heap.size w w' := by
  have hI := imageFault_any W H a np cp
  rw [h] at hI
  have HI := Lib.hid hI
  have HP1 := Lib.hid (fun wz (hz : Below w.heap.size w wz) => positions_any tv l wz (ht.below hz))
  have HP2 := Lib.hid (fun wz (hz : Below w.heap.size w wz) => positions_any lv o wz (hl.below hz))
  have HTI := Lib.hid hti
  have hpw : IntKind.i64.wrap 1 = 1 := IntWalk.i64_in _ (by omega)
  have HSI := Lib.hid hsi
  have hl1B : ((l.length : Int) == H) = true := by simpa using hl1
  have hwr : IntKind.i64.wrap (85 * s) = 85 * s := IntWalk.i64_in _ (by simp only [inB, Bool.and_eq_true, decide_eq_true_eq] at hsi; omega)
  rw [hok] at HP1
  subst hR
  obtain ⟨ta, tc, rfl, t1, t2, -⟩ := id ht
  obtain ⟨la, lc, rfl, l1, l2, -⟩ := id hl
  clear hI h ht hl hti hsi hl1 hok
  go_enter Try.func17, Try.ntmps17
  go_wp2_with fail
  generalize hW0 : World.alloc (World.alloc (World.alloc w _) _) _ = W0
  have E0 : FfEnv w #[.int .i64 W, .int .i64 H, .slice a np cp] #[.int .i64 t, .int .i64 s, .int .i64 85, .slice ta l.length tc, .slice la o.length lc] W0 := by
    rw [← hW0]
    exact ⟨(by repeat (first | (with_reducible exact Below.refl _ _) | (with_reducible assumption) | ((with_reducible refine Below.setCell ?_ ?_ _); rotate_left; (focus (first | omega | (simp; done) | (simp; omega)))) | (with_reducible refine Below.drew ?_) | (with_reducible refine below_drewN ?_ _) | ((with_reducible refine Below.alloc ?_ ?_ _); rotate_left; (focus (first | omega | (simp; done) | (simp; omega)))))), ((Blk.new _ _ _).alloc _).alloc _, (Blk.newAt _ _ (by simp)).alloc _, Blk.newAt _ _ (by simp)⟩
  clear hW0
  obtain ⟨k0, k1, k2, kf, klt⟩ := E0.img.d3
  go_wp2_with fail
  refine (HI.out W0).mono ?_
  rintro e w1 ⟨rfl, hb1⟩
  have E1 := E0.keep hb1
  clear k0 k1 k2 kf klt E0 hb1 HI
  obtain ⟨k0, k1, k2, kf, klt⟩ := E1.img.d3
  obtain ⟨g0, g1, g2, g3, g4, gf, glt⟩ := E1.frame.d5
  obtain ⟨f0, f1, ff, flt⟩ := E1.f.d2
  have klt1 : w.heap.size < w1.heap.size + 1 := by omega
  have glt1 : w.heap.size + 1 < w1.heap.size + 1 := by omega
  have flt1 : w.heap.size + 1 + 1 < w1.heap.size + 1 := by omega
  have flt2 : w.heap.size + 1 + 1 < w1.heap.size + 1 + 1 := by omega
  have hB1 := E1.below
  dsimp only
  go_wp2_with (first | (go_at_call 21; (first | (with_reducible refine (in_is HTI.out _).mono ?_) | (with_reducible refine (in_is HSI.out _).mono ?_)); rintro e w' ⟨rfl, rfl⟩) | (go_at_call 12; refine (at_exact _ _ _).mono ?_; rintro e w' ⟨rfl, rfl⟩) | (go_at_call 46; (first | (with_reducible refine (HP1.out _ (binto hB1 (below_alloc _ _))).mono ?_) | (with_reducible refine (HP2.out _ (binto hB1 (below_alloc _ _))).mono ?_)); rintro e w' ⟨rfl, rfl⟩))
  exact bodyPost_ret (v := .agg #[.int .i64 6, .int .i64 (-2)]) (by simp [results, Try.results17, go_sem, f0, f1, ff, flt, flt1, flt2]) rfl ⟨rfl, (by repeat (first | (with_reducible exact Below.refl _ _) | (with_reducible assumption) | ((with_reducible refine Below.setCell ?_ ?_ _); rotate_left; (focus (first | omega | (simp; done) | (simp; omega)))) | (with_reducible refine Below.drew ?_) | (with_reducible refine below_drewN ?_ _) | ((with_reducible refine Below.alloc ?_ ?_ _); rotate_left; (focus (first | omega | (simp; done) | (simp; omega))))))⟩

set_option maxRecDepth 100000 in
set_option maxHeartbeats 4000000 in
theorem ff_lefts_1_85 (W H : Int) (a : Option Addr) (np cp : Nat) (t s R : Int) (tv lv : Value) (l o : List Int) (w : World) (ht : Reads (Value.int .i64) w tv l) (hl : Reads (Value.int .i64) w lv o) (h : imageFaultF W H np = (0, 0)) (hti : inB t 0 7 = true) (hp : Int.tmod t 2 = 1) (hsi : inB s 3 6 = true) (hR : R = 85) (hl1 : (l.length : Int) = H) (hl2 : ((o.length : Int) != 85 * s) = false) (hok : listOk l = true) (hoo : listOk o = false) :
    Calls Try.prog 17 #[.agg #[.int .i64 W, .int .i64 H, .slice a np cp], .agg #[.int .i64 t, .int .i64 s, .int .i64 R, tv, lv]] w fun e w' => e = .returned (.agg #[.int .i64 6, .int .i64 (-2)]) ∧ Below w.heap.size w w' := by
  have hI := imageFault_any W H a np cp
  rw [h] at hI
  have HI := Lib.hid hI
  have HP1 := Lib.hid (fun wz (hz : Below w.heap.size w wz) => positions_any tv l wz (ht.below hz))
  have HP2 := Lib.hid (fun wz (hz : Below w.heap.size w wz) => positions_any lv o wz (hl.below hz))
  have HTI := Lib.hid hti
  have hpw : IntKind.i64.wrap 1 = 1 := IntWalk.i64_in _ (by omega)
  have HSI := Lib.hid hsi
  have hl1B : ((l.length : Int) == H) = true := by simpa using hl1
  have hwr : IntKind.i64.wrap (85 * s) = 85 * s := IntWalk.i64_in _ (by simp only [inB, Bool.and_eq_true, decide_eq_true_eq] at hsi; omega)
  rw [hok] at HP1
  rw [hoo] at HP2
  subst hR
  obtain ⟨ta, tc, rfl, t1, t2, -⟩ := id ht
  obtain ⟨la, lc, rfl, l1, l2, -⟩ := id hl
  clear hI h ht hl hti hsi hl1 hok hoo
  go_enter Try.func17, Try.ntmps17
  go_wp2_with fail
  generalize hW0 : World.alloc (World.alloc (World.alloc w _) _) _ = W0
  have E0 : FfEnv w #[.int .i64 W, .int .i64 H, .slice a np cp] #[.int .i64 t, .int .i64 s, .int .i64 85, .slice ta l.length tc, .slice la o.length lc] W0 := by
    rw [← hW0]
    exact ⟨(by repeat (first | (with_reducible exact Below.refl _ _) | (with_reducible assumption) | ((with_reducible refine Below.setCell ?_ ?_ _); rotate_left; (focus (first | omega | (simp; done) | (simp; omega)))) | (with_reducible refine Below.drew ?_) | (with_reducible refine below_drewN ?_ _) | ((with_reducible refine Below.alloc ?_ ?_ _); rotate_left; (focus (first | omega | (simp; done) | (simp; omega)))))), ((Blk.new _ _ _).alloc _).alloc _, (Blk.newAt _ _ (by simp)).alloc _, Blk.newAt _ _ (by simp)⟩
  clear hW0
  obtain ⟨k0, k1, k2, kf, klt⟩ := E0.img.d3
  go_wp2_with fail
  refine (HI.out W0).mono ?_
  rintro e w1 ⟨rfl, hb1⟩
  have E1 := E0.keep hb1
  clear k0 k1 k2 kf klt E0 hb1 HI
  obtain ⟨k0, k1, k2, kf, klt⟩ := E1.img.d3
  obtain ⟨g0, g1, g2, g3, g4, gf, glt⟩ := E1.frame.d5
  obtain ⟨f0, f1, ff, flt⟩ := E1.f.d2
  have klt1 : w.heap.size < w1.heap.size + 1 := by omega
  have glt1 : w.heap.size + 1 < w1.heap.size + 1 := by omega
  have flt1 : w.heap.size + 1 + 1 < w1.heap.size + 1 := by omega
  have flt2 : w.heap.size + 1 + 1 < w1.heap.size + 1 + 1 := by omega
  have hB1 := E1.below
  dsimp only
  go_wp2_with (first | (go_at_call 21; (first | (with_reducible refine (in_is HTI.out _).mono ?_) | (with_reducible refine (in_is HSI.out _).mono ?_)); rintro e w' ⟨rfl, rfl⟩) | (go_at_call 12; refine (at_exact _ _ _).mono ?_; rintro e w' ⟨rfl, rfl⟩) | (go_at_call 46; (first | (with_reducible refine (HP1.out _ (binto hB1 (below_alloc _ _))).mono ?_) | (with_reducible refine (HP2.out _ (binto hB1 (below_alloc _ _))).mono ?_)); rintro e w' ⟨rfl, rfl⟩))
  exact bodyPost_ret (v := .agg #[.int .i64 6, .int .i64 (-2)]) (by simp [results, Try.results17, go_sem, f0, f1, ff, flt, flt1, flt2]) rfl ⟨rfl, (by repeat (first | (with_reducible exact Below.refl _ _) | (with_reducible assumption) | ((with_reducible refine Below.setCell ?_ ?_ _); rotate_left; (focus (first | omega | (simp; done) | (simp; omega)))) | (with_reducible refine Below.drew ?_) | (with_reducible refine below_drewN ?_ _) | ((with_reducible refine Below.alloc ?_ ?_ _); rotate_left; (focus (first | omega | (simp; done) | (simp; omega))))))⟩

set_option maxRecDepth 100000 in
set_option maxHeartbeats 4000000 in
theorem ff_ok_1_85 (W H : Int) (a : Option Addr) (np cp : Nat) (t s R : Int) (tv lv : Value) (l o : List Int) (w : World) (ht : Reads (Value.int .i64) w tv l) (hl : Reads (Value.int .i64) w lv o) (h : imageFaultF W H np = (0, 0)) (hti : inB t 0 7 = true) (hp : Int.tmod t 2 = 1) (hsi : inB s 3 6 = true) (hR : R = 85) (hl1 : (l.length : Int) = H) (hl2 : ((o.length : Int) != 85 * s) = false) (hok : listOk l = true) (hoo : listOk o = true) :
    Calls Try.prog 17 #[.agg #[.int .i64 W, .int .i64 H, .slice a np cp], .agg #[.int .i64 t, .int .i64 s, .int .i64 R, tv, lv]] w fun e w' => e = .returned (.agg #[.int .i64 0, .int .i64 (0)]) ∧ Below w.heap.size w w' := by
  have hI := imageFault_any W H a np cp
  rw [h] at hI
  have HI := Lib.hid hI
  have HP1 := Lib.hid (fun wz (hz : Below w.heap.size w wz) => positions_any tv l wz (ht.below hz))
  have HP2 := Lib.hid (fun wz (hz : Below w.heap.size w wz) => positions_any lv o wz (hl.below hz))
  have HTI := Lib.hid hti
  have hpw : IntKind.i64.wrap 1 = 1 := IntWalk.i64_in _ (by omega)
  have HSI := Lib.hid hsi
  have hl1B : ((l.length : Int) == H) = true := by simpa using hl1
  have hwr : IntKind.i64.wrap (85 * s) = 85 * s := IntWalk.i64_in _ (by simp only [inB, Bool.and_eq_true, decide_eq_true_eq] at hsi; omega)
  rw [hok] at HP1
  rw [hoo] at HP2
  subst hR
  obtain ⟨ta, tc, rfl, t1, t2, -⟩ := id ht
  obtain ⟨la, lc, rfl, l1, l2, -⟩ := id hl
  clear hI h ht hl hti hsi hl1 hok hoo
  go_enter Try.func17, Try.ntmps17
  go_wp2_with fail
  generalize hW0 : World.alloc (World.alloc (World.alloc w _) _) _ = W0
  have E0 : FfEnv w #[.int .i64 W, .int .i64 H, .slice a np cp] #[.int .i64 t, .int .i64 s, .int .i64 85, .slice ta l.length tc, .slice la o.length lc] W0 := by
    rw [← hW0]
    exact ⟨(by repeat (first | (with_reducible exact Below.refl _ _) | (with_reducible assumption) | ((with_reducible refine Below.setCell ?_ ?_ _); rotate_left; (focus (first | omega | (simp; done) | (simp; omega)))) | (with_reducible refine Below.drew ?_) | (with_reducible refine below_drewN ?_ _) | ((with_reducible refine Below.alloc ?_ ?_ _); rotate_left; (focus (first | omega | (simp; done) | (simp; omega)))))), ((Blk.new _ _ _).alloc _).alloc _, (Blk.newAt _ _ (by simp)).alloc _, Blk.newAt _ _ (by simp)⟩
  clear hW0
  obtain ⟨k0, k1, k2, kf, klt⟩ := E0.img.d3
  go_wp2_with fail
  refine (HI.out W0).mono ?_
  rintro e w1 ⟨rfl, hb1⟩
  have E1 := E0.keep hb1
  clear k0 k1 k2 kf klt E0 hb1 HI
  obtain ⟨k0, k1, k2, kf, klt⟩ := E1.img.d3
  obtain ⟨g0, g1, g2, g3, g4, gf, glt⟩ := E1.frame.d5
  obtain ⟨f0, f1, ff, flt⟩ := E1.f.d2
  have klt1 : w.heap.size < w1.heap.size + 1 := by omega
  have glt1 : w.heap.size + 1 < w1.heap.size + 1 := by omega
  have flt1 : w.heap.size + 1 + 1 < w1.heap.size + 1 := by omega
  have flt2 : w.heap.size + 1 + 1 < w1.heap.size + 1 + 1 := by omega
  have hB1 := E1.below
  dsimp only
  go_wp2_with (first | (go_at_call 21; (first | (with_reducible refine (in_is HTI.out _).mono ?_) | (with_reducible refine (in_is HSI.out _).mono ?_)); rintro e w' ⟨rfl, rfl⟩) | (go_at_call 12; refine (at_exact _ _ _).mono ?_; rintro e w' ⟨rfl, rfl⟩) | (go_at_call 46; (first | (with_reducible refine (HP1.out _ (binto hB1 (below_alloc _ _))).mono ?_) | (with_reducible refine (HP2.out _ (binto hB1 (below_alloc _ _))).mono ?_)); rintro e w' ⟨rfl, rfl⟩))
  exact bodyPost_ret (v := .agg #[.int .i64 0, .int .i64 (0)]) (by simp [results, Try.results17, go_sem, f0, f1, ff, flt, flt1, flt2]) rfl ⟨rfl, (by repeat (first | (with_reducible exact Below.refl _ _) | (with_reducible assumption) | ((with_reducible refine Below.setCell ?_ ?_ _); rotate_left; (focus (first | omega | (simp; done) | (simp; omega)))) | (with_reducible refine Below.drew ?_) | (with_reducible refine below_drewN ?_ _) | ((with_reducible refine Below.alloc ?_ ?_ _); rotate_left; (focus (first | omega | (simp; done) | (simp; omega))))))⟩

set_option maxRecDepth 100000 in
set_option maxHeartbeats 4000000 in
theorem ff_len1_1_53 (W H : Int) (a : Option Addr) (np cp : Nat) (t s R : Int) (tv lv : Value) (l o : List Int) (w : World) (ht : Reads (Value.int .i64) w tv l) (hl : Reads (Value.int .i64) w lv o) (h : imageFaultF W H np = (0, 0)) (hti : inB t 0 7 = true) (hp : Int.tmod t 2 = 1) (hsi : inB s 3 6 = true) (hR : R = 53) (hl1 : ((l.length : Int) == H) = false) :
    Calls Try.prog 17 #[.agg #[.int .i64 W, .int .i64 H, .slice a np cp], .agg #[.int .i64 t, .int .i64 s, .int .i64 R, tv, lv]] w fun e w' => e = .returned (.agg #[.int .i64 6, .int .i64 (-2)]) ∧ Below w.heap.size w w' := by
  have hI := imageFault_any W H a np cp
  rw [h] at hI
  have HI := Lib.hid hI
  have HP1 := Lib.hid (fun wz (hz : Below w.heap.size w wz) => positions_any tv l wz (ht.below hz))
  have HP2 := Lib.hid (fun wz (hz : Below w.heap.size w wz) => positions_any lv o wz (hl.below hz))
  have HTI := Lib.hid hti
  have hpw : IntKind.i64.wrap 1 = 1 := IntWalk.i64_in _ (by omega)
  have HSI := Lib.hid hsi
  subst hR
  obtain ⟨ta, tc, rfl, t1, t2, -⟩ := id ht
  obtain ⟨la, lc, rfl, l1, l2, -⟩ := id hl
  clear hI h ht hl hti hsi
  go_enter Try.func17, Try.ntmps17
  go_wp2_with fail
  generalize hW0 : World.alloc (World.alloc (World.alloc w _) _) _ = W0
  have E0 : FfEnv w #[.int .i64 W, .int .i64 H, .slice a np cp] #[.int .i64 t, .int .i64 s, .int .i64 53, .slice ta l.length tc, .slice la o.length lc] W0 := by
    rw [← hW0]
    exact ⟨(by repeat (first | (with_reducible exact Below.refl _ _) | (with_reducible assumption) | ((with_reducible refine Below.setCell ?_ ?_ _); rotate_left; (focus (first | omega | (simp; done) | (simp; omega)))) | (with_reducible refine Below.drew ?_) | (with_reducible refine below_drewN ?_ _) | ((with_reducible refine Below.alloc ?_ ?_ _); rotate_left; (focus (first | omega | (simp; done) | (simp; omega)))))), ((Blk.new _ _ _).alloc _).alloc _, (Blk.newAt _ _ (by simp)).alloc _, Blk.newAt _ _ (by simp)⟩
  clear hW0
  obtain ⟨k0, k1, k2, kf, klt⟩ := E0.img.d3
  go_wp2_with fail
  refine (HI.out W0).mono ?_
  rintro e w1 ⟨rfl, hb1⟩
  have E1 := E0.keep hb1
  clear k0 k1 k2 kf klt E0 hb1 HI
  obtain ⟨k0, k1, k2, kf, klt⟩ := E1.img.d3
  obtain ⟨g0, g1, g2, g3, g4, gf, glt⟩ := E1.frame.d5
  obtain ⟨f0, f1, ff, flt⟩ := E1.f.d2
  have klt1 : w.heap.size < w1.heap.size + 1 := by omega
  have glt1 : w.heap.size + 1 < w1.heap.size + 1 := by omega
  have flt1 : w.heap.size + 1 + 1 < w1.heap.size + 1 := by omega
  have flt2 : w.heap.size + 1 + 1 < w1.heap.size + 1 + 1 := by omega
  have hB1 := E1.below
  dsimp only
  go_wp2_with (first | (go_at_call 21; (first | (with_reducible refine (in_is HTI.out _).mono ?_) | (with_reducible refine (in_is HSI.out _).mono ?_)); rintro e w' ⟨rfl, rfl⟩) | (go_at_call 12; refine (at_exact _ _ _).mono ?_; rintro e w' ⟨rfl, rfl⟩) | (go_at_call 46; (first | (with_reducible refine (HP1.out _ (binto hB1 (below_alloc _ _))).mono ?_) | (with_reducible refine (HP2.out _ (binto hB1 (below_alloc _ _))).mono ?_)); rintro e w' ⟨rfl, rfl⟩))
  exact bodyPost_ret (v := .agg #[.int .i64 6, .int .i64 (-2)]) (by simp [results, Try.results17, go_sem, f0, f1, ff, flt, flt1, flt2]) rfl ⟨rfl, (by repeat (first | (with_reducible exact Below.refl _ _) | (with_reducible assumption) | ((with_reducible refine Below.setCell ?_ ?_ _); rotate_left; (focus (first | omega | (simp; done) | (simp; omega)))) | (with_reducible refine Below.drew ?_) | (with_reducible refine below_drewN ?_ _) | ((with_reducible refine Below.alloc ?_ ?_ _); rotate_left; (focus (first | omega | (simp; done) | (simp; omega))))))⟩

set_option maxRecDepth 100000 in
set_option maxHeartbeats 4000000 in
theorem ff_len2_1_53 (W H : Int) (a : Option Addr) (np cp : Nat) (t s R : Int) (tv lv : Value) (l o : List Int) (w : World) (ht : Reads (Value.int .i64) w tv l) (hl : Reads (Value.int .i64) w lv o) (h : imageFaultF W H np = (0, 0)) (hti : inB t 0 7 = true) (hp : Int.tmod t 2 = 1) (hsi : inB s 3 6 = true) (hR : R = 53) (hl1 : (l.length : Int) = H) (hl2 : ((o.length : Int) != 53 * s) = true) :
    Calls Try.prog 17 #[.agg #[.int .i64 W, .int .i64 H, .slice a np cp], .agg #[.int .i64 t, .int .i64 s, .int .i64 R, tv, lv]] w fun e w' => e = .returned (.agg #[.int .i64 6, .int .i64 (-2)]) ∧ Below w.heap.size w w' := by
  have hI := imageFault_any W H a np cp
  rw [h] at hI
  have HI := Lib.hid hI
  have HP1 := Lib.hid (fun wz (hz : Below w.heap.size w wz) => positions_any tv l wz (ht.below hz))
  have HP2 := Lib.hid (fun wz (hz : Below w.heap.size w wz) => positions_any lv o wz (hl.below hz))
  have HTI := Lib.hid hti
  have hpw : IntKind.i64.wrap 1 = 1 := IntWalk.i64_in _ (by omega)
  have HSI := Lib.hid hsi
  have hl1B : ((l.length : Int) == H) = true := by simpa using hl1
  have hwr : IntKind.i64.wrap (53 * s) = 53 * s := IntWalk.i64_in _ (by simp only [inB, Bool.and_eq_true, decide_eq_true_eq] at hsi; omega)
  subst hR
  obtain ⟨ta, tc, rfl, t1, t2, -⟩ := id ht
  obtain ⟨la, lc, rfl, l1, l2, -⟩ := id hl
  clear hI h ht hl hti hsi hl1
  go_enter Try.func17, Try.ntmps17
  go_wp2_with fail
  generalize hW0 : World.alloc (World.alloc (World.alloc w _) _) _ = W0
  have E0 : FfEnv w #[.int .i64 W, .int .i64 H, .slice a np cp] #[.int .i64 t, .int .i64 s, .int .i64 53, .slice ta l.length tc, .slice la o.length lc] W0 := by
    rw [← hW0]
    exact ⟨(by repeat (first | (with_reducible exact Below.refl _ _) | (with_reducible assumption) | ((with_reducible refine Below.setCell ?_ ?_ _); rotate_left; (focus (first | omega | (simp; done) | (simp; omega)))) | (with_reducible refine Below.drew ?_) | (with_reducible refine below_drewN ?_ _) | ((with_reducible refine Below.alloc ?_ ?_ _); rotate_left; (focus (first | omega | (simp; done) | (simp; omega)))))), ((Blk.new _ _ _).alloc _).alloc _, (Blk.newAt _ _ (by simp)).alloc _, Blk.newAt _ _ (by simp)⟩
  clear hW0
  obtain ⟨k0, k1, k2, kf, klt⟩ := E0.img.d3
  go_wp2_with fail
  refine (HI.out W0).mono ?_
  rintro e w1 ⟨rfl, hb1⟩
  have E1 := E0.keep hb1
  clear k0 k1 k2 kf klt E0 hb1 HI
  obtain ⟨k0, k1, k2, kf, klt⟩ := E1.img.d3
  obtain ⟨g0, g1, g2, g3, g4, gf, glt⟩ := E1.frame.d5
  obtain ⟨f0, f1, ff, flt⟩ := E1.f.d2
  have klt1 : w.heap.size < w1.heap.size + 1 := by omega
  have glt1 : w.heap.size + 1 < w1.heap.size + 1 := by omega
  have flt1 : w.heap.size + 1 + 1 < w1.heap.size + 1 := by omega
  have flt2 : w.heap.size + 1 + 1 < w1.heap.size + 1 + 1 := by omega
  have hB1 := E1.below
  dsimp only
  go_wp2_with (first | (go_at_call 21; (first | (with_reducible refine (in_is HTI.out _).mono ?_) | (with_reducible refine (in_is HSI.out _).mono ?_)); rintro e w' ⟨rfl, rfl⟩) | (go_at_call 12; refine (at_exact _ _ _).mono ?_; rintro e w' ⟨rfl, rfl⟩) | (go_at_call 46; (first | (with_reducible refine (HP1.out _ (binto hB1 (below_alloc _ _))).mono ?_) | (with_reducible refine (HP2.out _ (binto hB1 (below_alloc _ _))).mono ?_)); rintro e w' ⟨rfl, rfl⟩))
  exact bodyPost_ret (v := .agg #[.int .i64 6, .int .i64 (-2)]) (by simp [results, Try.results17, go_sem, f0, f1, ff, flt, flt1, flt2]) rfl ⟨rfl, (by repeat (first | (with_reducible exact Below.refl _ _) | (with_reducible assumption) | ((with_reducible refine Below.setCell ?_ ?_ _); rotate_left; (focus (first | omega | (simp; done) | (simp; omega)))) | (with_reducible refine Below.drew ?_) | (with_reducible refine below_drewN ?_ _) | ((with_reducible refine Below.alloc ?_ ?_ _); rotate_left; (focus (first | omega | (simp; done) | (simp; omega))))))⟩

set_option maxRecDepth 100000 in
set_option maxHeartbeats 4000000 in
theorem ff_tops_1_53 (W H : Int) (a : Option Addr) (np cp : Nat) (t s R : Int) (tv lv : Value) (l o : List Int) (w : World) (ht : Reads (Value.int .i64) w tv l) (hl : Reads (Value.int .i64) w lv o) (h : imageFaultF W H np = (0, 0)) (hti : inB t 0 7 = true) (hp : Int.tmod t 2 = 1) (hsi : inB s 3 6 = true) (hR : R = 53) (hl1 : (l.length : Int) = H) (hl2 : ((o.length : Int) != 53 * s) = false) (hok : listOk l = false) :
    Calls Try.prog 17 #[.agg #[.int .i64 W, .int .i64 H, .slice a np cp], .agg #[.int .i64 t, .int .i64 s, .int .i64 R, tv, lv]] w fun e w' => e = .returned (.agg #[.int .i64 6, .int .i64 (-2)]) ∧ Below w.heap.size w w' := by
  have hI := imageFault_any W H a np cp
  rw [h] at hI
  have HI := Lib.hid hI
  have HP1 := Lib.hid (fun wz (hz : Below w.heap.size w wz) => positions_any tv l wz (ht.below hz))
  have HP2 := Lib.hid (fun wz (hz : Below w.heap.size w wz) => positions_any lv o wz (hl.below hz))
  have HTI := Lib.hid hti
  have hpw : IntKind.i64.wrap 1 = 1 := IntWalk.i64_in _ (by omega)
  have HSI := Lib.hid hsi
  have hl1B : ((l.length : Int) == H) = true := by simpa using hl1
  have hwr : IntKind.i64.wrap (53 * s) = 53 * s := IntWalk.i64_in _ (by simp only [inB, Bool.and_eq_true, decide_eq_true_eq] at hsi; omega)
  rw [hok] at HP1
  subst hR
  obtain ⟨ta, tc, rfl, t1, t2, -⟩ := id ht
  obtain ⟨la, lc, rfl, l1, l2, -⟩ := id hl
  clear hI h ht hl hti hsi hl1 hok
  go_enter Try.func17, Try.ntmps17
  go_wp2_with fail
  generalize hW0 : World.alloc (World.alloc (World.alloc w _) _) _ = W0
  have E0 : FfEnv w #[.int .i64 W, .int .i64 H, .slice a np cp] #[.int .i64 t, .int .i64 s, .int .i64 53, .slice ta l.length tc, .slice la o.length lc] W0 := by
    rw [← hW0]
    exact ⟨(by repeat (first | (with_reducible exact Below.refl _ _) | (with_reducible assumption) | ((with_reducible refine Below.setCell ?_ ?_ _); rotate_left; (focus (first | omega | (simp; done) | (simp; omega)))) | (with_reducible refine Below.drew ?_) | (with_reducible refine below_drewN ?_ _) | ((with_reducible refine Below.alloc ?_ ?_ _); rotate_left; (focus (first | omega | (simp; done) | (simp; omega)))))), ((Blk.new _ _ _).alloc _).alloc _, (Blk.newAt _ _ (by simp)).alloc _, Blk.newAt _ _ (by simp)⟩
  clear hW0
  obtain ⟨k0, k1, k2, kf, klt⟩ := E0.img.d3
  go_wp2_with fail
  refine (HI.out W0).mono ?_
  rintro e w1 ⟨rfl, hb1⟩
  have E1 := E0.keep hb1
  clear k0 k1 k2 kf klt E0 hb1 HI
  obtain ⟨k0, k1, k2, kf, klt⟩ := E1.img.d3
  obtain ⟨g0, g1, g2, g3, g4, gf, glt⟩ := E1.frame.d5
  obtain ⟨f0, f1, ff, flt⟩ := E1.f.d2
  have klt1 : w.heap.size < w1.heap.size + 1 := by omega
  have glt1 : w.heap.size + 1 < w1.heap.size + 1 := by omega
  have flt1 : w.heap.size + 1 + 1 < w1.heap.size + 1 := by omega
  have flt2 : w.heap.size + 1 + 1 < w1.heap.size + 1 + 1 := by omega
  have hB1 := E1.below
  dsimp only
  go_wp2_with (first | (go_at_call 21; (first | (with_reducible refine (in_is HTI.out _).mono ?_) | (with_reducible refine (in_is HSI.out _).mono ?_)); rintro e w' ⟨rfl, rfl⟩) | (go_at_call 12; refine (at_exact _ _ _).mono ?_; rintro e w' ⟨rfl, rfl⟩) | (go_at_call 46; (first | (with_reducible refine (HP1.out _ (binto hB1 (below_alloc _ _))).mono ?_) | (with_reducible refine (HP2.out _ (binto hB1 (below_alloc _ _))).mono ?_)); rintro e w' ⟨rfl, rfl⟩))
  exact bodyPost_ret (v := .agg #[.int .i64 6, .int .i64 (-2)]) (by simp [results, Try.results17, go_sem, f0, f1, ff, flt, flt1, flt2]) rfl ⟨rfl, (by repeat (first | (with_reducible exact Below.refl _ _) | (with_reducible assumption) | ((with_reducible refine Below.setCell ?_ ?_ _); rotate_left; (focus (first | omega | (simp; done) | (simp; omega)))) | (with_reducible refine Below.drew ?_) | (with_reducible refine below_drewN ?_ _) | ((with_reducible refine Below.alloc ?_ ?_ _); rotate_left; (focus (first | omega | (simp; done) | (simp; omega))))))⟩

set_option maxRecDepth 100000 in
set_option maxHeartbeats 4000000 in
theorem ff_lefts_1_53 (W H : Int) (a : Option Addr) (np cp : Nat) (t s R : Int) (tv lv : Value) (l o : List Int) (w : World) (ht : Reads (Value.int .i64) w tv l) (hl : Reads (Value.int .i64) w lv o) (h : imageFaultF W H np = (0, 0)) (hti : inB t 0 7 = true) (hp : Int.tmod t 2 = 1) (hsi : inB s 3 6 = true) (hR : R = 53) (hl1 : (l.length : Int) = H) (hl2 : ((o.length : Int) != 53 * s) = false) (hok : listOk l = true) (hoo : listOk o = false) :
    Calls Try.prog 17 #[.agg #[.int .i64 W, .int .i64 H, .slice a np cp], .agg #[.int .i64 t, .int .i64 s, .int .i64 R, tv, lv]] w fun e w' => e = .returned (.agg #[.int .i64 6, .int .i64 (-2)]) ∧ Below w.heap.size w w' := by
  have hI := imageFault_any W H a np cp
  rw [h] at hI
  have HI := Lib.hid hI
  have HP1 := Lib.hid (fun wz (hz : Below w.heap.size w wz) => positions_any tv l wz (ht.below hz))
  have HP2 := Lib.hid (fun wz (hz : Below w.heap.size w wz) => positions_any lv o wz (hl.below hz))
  have HTI := Lib.hid hti
  have hpw : IntKind.i64.wrap 1 = 1 := IntWalk.i64_in _ (by omega)
  have HSI := Lib.hid hsi
  have hl1B : ((l.length : Int) == H) = true := by simpa using hl1
  have hwr : IntKind.i64.wrap (53 * s) = 53 * s := IntWalk.i64_in _ (by simp only [inB, Bool.and_eq_true, decide_eq_true_eq] at hsi; omega)
  rw [hok] at HP1
  rw [hoo] at HP2
  subst hR
  obtain ⟨ta, tc, rfl, t1, t2, -⟩ := id ht
  obtain ⟨la, lc, rfl, l1, l2, -⟩ := id hl
  clear hI h ht hl hti hsi hl1 hok hoo
  go_enter Try.func17, Try.ntmps17
  go_wp2_with fail
  generalize hW0 : World.alloc (World.alloc (World.alloc w _) _) _ = W0
  have E0 : FfEnv w #[.int .i64 W, .int .i64 H, .slice a np cp] #[.int .i64 t, .int .i64 s, .int .i64 53, .slice ta l.length tc, .slice la o.length lc] W0 := by
    rw [← hW0]
    exact ⟨(by repeat (first | (with_reducible exact Below.refl _ _) | (with_reducible assumption) | ((with_reducible refine Below.setCell ?_ ?_ _); rotate_left; (focus (first | omega | (simp; done) | (simp; omega)))) | (with_reducible refine Below.drew ?_) | (with_reducible refine below_drewN ?_ _) | ((with_reducible refine Below.alloc ?_ ?_ _); rotate_left; (focus (first | omega | (simp; done) | (simp; omega)))))), ((Blk.new _ _ _).alloc _).alloc _, (Blk.newAt _ _ (by simp)).alloc _, Blk.newAt _ _ (by simp)⟩
  clear hW0
  obtain ⟨k0, k1, k2, kf, klt⟩ := E0.img.d3
  go_wp2_with fail
  refine (HI.out W0).mono ?_
  rintro e w1 ⟨rfl, hb1⟩
  have E1 := E0.keep hb1
  clear k0 k1 k2 kf klt E0 hb1 HI
  obtain ⟨k0, k1, k2, kf, klt⟩ := E1.img.d3
  obtain ⟨g0, g1, g2, g3, g4, gf, glt⟩ := E1.frame.d5
  obtain ⟨f0, f1, ff, flt⟩ := E1.f.d2
  have klt1 : w.heap.size < w1.heap.size + 1 := by omega
  have glt1 : w.heap.size + 1 < w1.heap.size + 1 := by omega
  have flt1 : w.heap.size + 1 + 1 < w1.heap.size + 1 := by omega
  have flt2 : w.heap.size + 1 + 1 < w1.heap.size + 1 + 1 := by omega
  have hB1 := E1.below
  dsimp only
  go_wp2_with (first | (go_at_call 21; (first | (with_reducible refine (in_is HTI.out _).mono ?_) | (with_reducible refine (in_is HSI.out _).mono ?_)); rintro e w' ⟨rfl, rfl⟩) | (go_at_call 12; refine (at_exact _ _ _).mono ?_; rintro e w' ⟨rfl, rfl⟩) | (go_at_call 46; (first | (with_reducible refine (HP1.out _ (binto hB1 (below_alloc _ _))).mono ?_) | (with_reducible refine (HP2.out _ (binto hB1 (below_alloc _ _))).mono ?_)); rintro e w' ⟨rfl, rfl⟩))
  exact bodyPost_ret (v := .agg #[.int .i64 6, .int .i64 (-2)]) (by simp [results, Try.results17, go_sem, f0, f1, ff, flt, flt1, flt2]) rfl ⟨rfl, (by repeat (first | (with_reducible exact Below.refl _ _) | (with_reducible assumption) | ((with_reducible refine Below.setCell ?_ ?_ _); rotate_left; (focus (first | omega | (simp; done) | (simp; omega)))) | (with_reducible refine Below.drew ?_) | (with_reducible refine below_drewN ?_ _) | ((with_reducible refine Below.alloc ?_ ?_ _); rotate_left; (focus (first | omega | (simp; done) | (simp; omega))))))⟩

set_option maxRecDepth 100000 in
set_option maxHeartbeats 4000000 in
theorem ff_ok_1_53 (W H : Int) (a : Option Addr) (np cp : Nat) (t s R : Int) (tv lv : Value) (l o : List Int) (w : World) (ht : Reads (Value.int .i64) w tv l) (hl : Reads (Value.int .i64) w lv o) (h : imageFaultF W H np = (0, 0)) (hti : inB t 0 7 = true) (hp : Int.tmod t 2 = 1) (hsi : inB s 3 6 = true) (hR : R = 53) (hl1 : (l.length : Int) = H) (hl2 : ((o.length : Int) != 53 * s) = false) (hok : listOk l = true) (hoo : listOk o = true) :
    Calls Try.prog 17 #[.agg #[.int .i64 W, .int .i64 H, .slice a np cp], .agg #[.int .i64 t, .int .i64 s, .int .i64 R, tv, lv]] w fun e w' => e = .returned (.agg #[.int .i64 0, .int .i64 (0)]) ∧ Below w.heap.size w w' := by
  have hI := imageFault_any W H a np cp
  rw [h] at hI
  have HI := Lib.hid hI
  have HP1 := Lib.hid (fun wz (hz : Below w.heap.size w wz) => positions_any tv l wz (ht.below hz))
  have HP2 := Lib.hid (fun wz (hz : Below w.heap.size w wz) => positions_any lv o wz (hl.below hz))
  have HTI := Lib.hid hti
  have hpw : IntKind.i64.wrap 1 = 1 := IntWalk.i64_in _ (by omega)
  have HSI := Lib.hid hsi
  have hl1B : ((l.length : Int) == H) = true := by simpa using hl1
  have hwr : IntKind.i64.wrap (53 * s) = 53 * s := IntWalk.i64_in _ (by simp only [inB, Bool.and_eq_true, decide_eq_true_eq] at hsi; omega)
  rw [hok] at HP1
  rw [hoo] at HP2
  subst hR
  obtain ⟨ta, tc, rfl, t1, t2, -⟩ := id ht
  obtain ⟨la, lc, rfl, l1, l2, -⟩ := id hl
  clear hI h ht hl hti hsi hl1 hok hoo
  go_enter Try.func17, Try.ntmps17
  go_wp2_with fail
  generalize hW0 : World.alloc (World.alloc (World.alloc w _) _) _ = W0
  have E0 : FfEnv w #[.int .i64 W, .int .i64 H, .slice a np cp] #[.int .i64 t, .int .i64 s, .int .i64 53, .slice ta l.length tc, .slice la o.length lc] W0 := by
    rw [← hW0]
    exact ⟨(by repeat (first | (with_reducible exact Below.refl _ _) | (with_reducible assumption) | ((with_reducible refine Below.setCell ?_ ?_ _); rotate_left; (focus (first | omega | (simp; done) | (simp; omega)))) | (with_reducible refine Below.drew ?_) | (with_reducible refine below_drewN ?_ _) | ((with_reducible refine Below.alloc ?_ ?_ _); rotate_left; (focus (first | omega | (simp; done) | (simp; omega)))))), ((Blk.new _ _ _).alloc _).alloc _, (Blk.newAt _ _ (by simp)).alloc _, Blk.newAt _ _ (by simp)⟩
  clear hW0
  obtain ⟨k0, k1, k2, kf, klt⟩ := E0.img.d3
  go_wp2_with fail
  refine (HI.out W0).mono ?_
  rintro e w1 ⟨rfl, hb1⟩
  have E1 := E0.keep hb1
  clear k0 k1 k2 kf klt E0 hb1 HI
  obtain ⟨k0, k1, k2, kf, klt⟩ := E1.img.d3
  obtain ⟨g0, g1, g2, g3, g4, gf, glt⟩ := E1.frame.d5
  obtain ⟨f0, f1, ff, flt⟩ := E1.f.d2
  have klt1 : w.heap.size < w1.heap.size + 1 := by omega
  have glt1 : w.heap.size + 1 < w1.heap.size + 1 := by omega
  have flt1 : w.heap.size + 1 + 1 < w1.heap.size + 1 := by omega
  have flt2 : w.heap.size + 1 + 1 < w1.heap.size + 1 + 1 := by omega
  have hB1 := E1.below
  dsimp only
  go_wp2_with (first | (go_at_call 21; (first | (with_reducible refine (in_is HTI.out _).mono ?_) | (with_reducible refine (in_is HSI.out _).mono ?_)); rintro e w' ⟨rfl, rfl⟩) | (go_at_call 12; refine (at_exact _ _ _).mono ?_; rintro e w' ⟨rfl, rfl⟩) | (go_at_call 46; (first | (with_reducible refine (HP1.out _ (binto hB1 (below_alloc _ _))).mono ?_) | (with_reducible refine (HP2.out _ (binto hB1 (below_alloc _ _))).mono ?_)); rintro e w' ⟨rfl, rfl⟩))
  exact bodyPost_ret (v := .agg #[.int .i64 0, .int .i64 (0)]) (by simp [results, Try.results17, go_sem, f0, f1, ff, flt, flt1, flt2]) rfl ⟨rfl, (by repeat (first | (with_reducible exact Below.refl _ _) | (with_reducible assumption) | ((with_reducible refine Below.setCell ?_ ?_ _); rotate_left; (focus (first | omega | (simp; done) | (simp; omega)))) | (with_reducible refine Below.drew ?_) | (with_reducible refine below_drewN ?_ _) | ((with_reducible refine Below.alloc ?_ ?_ _); rotate_left; (focus (first | omega | (simp; done) | (simp; omega))))))⟩

end Go.Proofs.Ytnfgedbcfclnmaa

namespace Go.Proofs.Ytnfgedbcfclnmaa
open Go.ChangeShapes Go.WideShapes Go.ChangeAt Go.RowKit Go.Joins

theorem Try.own : ownKnob Try.prog.godebug = none := by kernel_rfl
theorem Try.laidOut : laidOutB Try.prog = true := by kernel_rfl

section
variable {H : Type} {enc : TypeId × Value → H}
set_option maxRecDepth 100000 in
/-- An image that came in, opened. -/
theorem open_image {W : World} {v : Value} {d : DataW H} {p : List MemPlace} {base : Nat} (hval : Value.okWide Try.prog W .any base 24 v) (h : DataW.Trod enc Try.prog W 0 (fun _ => true) true 24 v d p) :
    ∃ (x y : Int) (a : Option Addr) (np cp : Nat) (px : List Int), v = .agg #[.int .i64 x, .int .i64 y, .slice a np cp] ∧ Reads (Value.int .u8) W (.slice a np cp) px ∧ ∀ n ∈ px, 0 ≤ n ∧ n ≤ 255 := by
  obtain ⟨c0, c1, c2, y0, y1, y2, m, rfl, -, -, hy0, hy1, hy2⟩ := open_agg3 Try.underlying24 (by kernel_rfl) (by kernel_rfl : Try.prog.cellsOf 24 = 3) hval h
  obtain ⟨x, e0, -, -⟩ := DataW.trod_int Try.underlying3 hy0
  obtain ⟨y, e1, -, -⟩ := DataW.trod_int Try.underlying3 hy1
  simp at e0 e1
  subst e0 e1
  rcases open_ints Try.underlying22 Try.underlying5 (by kernel_rfl) hy2 with ⟨hcs, _⟩ | ⟨ad, l, c, zs, hcs, _, hl, hm, hz, _, hcell, hwz⟩
  · simp at hcs
    subst hcs
    exact ⟨x, y, none, 0, 0, [], rfl, ⟨none, 0, rfl, by simp, by simp, .inl rfl⟩, by simp⟩
  · simp at hcs
    subst hcs
    have hz' : zs.length = c := by simpa using hz
    refine ⟨x, y, some ad, l, c, zs.take l, rfl, ?_, fun n hn => ?_⟩
    · rcases Nat.eq_zero_or_pos l with h0 | h0
      · subst h0
        exact ⟨_, _, rfl, by simp, hm, .inl (by simp)⟩
      · obtain ⟨b, off, spot⟩ := ad
        have hc0 := hcell 0 (by omega)
        have hspot : spot = none := by simpa [Addr.add] using World.cell?_spot hc0
        subst hspot
        have htl : (zs.take l).length = l := by simp; omega
        refine ⟨some ⟨b, off, none⟩, c, by rw [htl], by rw [htl]; exact hl, hm, .inr ⟨b, off, rfl, World.block_lt_of_cell? _ _ hc0, fun i x' hx' => ?_⟩⟩
        have hil : i < l := by have := (List.getElem?_eq_some_iff.1 hx').1; omega
        have hci := hcell i (by omega)
        rw [List.getElem?_take_of_lt hil] at hx'
        rw [List.getD, hx'] at hci
        rw [Addr.add_lit] at hci
        exact hci
    · have hw := hwz n (List.mem_of_mem_take hn)
      have hw' : (decide (0 ≤ n) && decide (n ≤ 255)) = true := hw
      simpa using hw'
end

section
variable {H : Type} {enc : TypeId × Value → H}
set_option maxRecDepth 100000 in
/-- A list of numbers that came in, opened, by the reading of its cell. -/
theorem open_list {W : World} {c2 : Value} {y2 : DataW H × List MemPlace} {m : Nat} (hy2 : DataW.trod enc Try.prog W 0 (fun _ => true) true m 25 [c2] = some y2) :
    ∃ l : List Int, Reads (Value.int .i64) W c2 l ∧ ∀ n ∈ l, -9223372036854775808 ≤ n ∧ n ≤ 9223372036854775807 := by
  rcases open_ints Try.underlying25 Try.underlying3 (by kernel_rfl) hy2 with ⟨hcs, _⟩ | ⟨ad, l, c, zs, hcs, _, hl, hm, hz, _, hcell, hwz⟩
  · simp at hcs
    subst hcs
    exact ⟨[], ⟨none, 0, rfl, by simp, by simp, .inl rfl⟩, by simp⟩
  · simp at hcs
    subst hcs
    have hz' : zs.length = c := by simpa using hz
    refine ⟨zs.take l, ?_, fun n hn => ?_⟩
    · rcases Nat.eq_zero_or_pos l with h0 | h0
      · subst h0
        exact ⟨_, _, rfl, by simp, hm, .inl (by simp)⟩
      · obtain ⟨b, off, spot⟩ := ad
        have hc0 := hcell 0 (by omega)
        have hspot : spot = none := by simpa [Addr.add] using World.cell?_spot hc0
        subst hspot
        have htl : (zs.take l).length = l := by simp; omega
        refine ⟨some ⟨b, off, none⟩, c, by rw [htl], by rw [htl]; exact hl, hm, .inr ⟨b, off, rfl, World.block_lt_of_cell? _ _ hc0, fun i x' hx' => ?_⟩⟩
        have hil : i < l := by have := (List.getElem?_eq_some_iff.1 hx').1; omega
        have hci := hcell i (by omega)
        rw [List.getElem?_take_of_lt hil] at hx'
        rw [List.getD, hx'] at hci
        rw [Addr.add_lit] at hci
        exact hci
    · have hw := hwz n (List.mem_of_mem_take hn)
      have hw' : (decide (-9223372036854775808 ≤ n) && decide (n ≤ 9223372036854775807)) = true := hw
      simpa using hw'
end

end Go.Proofs.Ytnfgedbcfclnmaa

namespace Go.Proofs.Ytnfgedbcfclnmaa
open Go.RowKit

structure L3Env (w : World) (iv fv : Array Value) (wx : World) : Prop where
  below : Below w.heap.size w wx
  img : Blk wx w.heap.size iv 24
  frame : Blk wx (w.heap.size + 1) fv 43
theorem L3Env.keep {w wx w1 : World} {iv fv : Array Value} (h : L3Env w iv fv wx) (hb : Below wx.heap.size wx w1) : L3Env w iv fv w1 :=
  ⟨binto h.below hb, h.img.keep hb h.img.lt, h.frame.keep hb h.frame.lt⟩

set_option maxRecDepth 100000 in
set_option maxHeartbeats 4000000 in
theorem ffc_len1 (W H : Int) (a : Option Addr) (np cp : Nat) (t s R : Int) (tv lv : Value) (l o : List Int) (w : World) (ht : Reads (Value.int .i64) w tv l) (hl : Reads (Value.int .i64) w lv o) (h : imageFaultF W H np = (0, 0)) (hti : inB t 0 7 = true) (hp : Int.tmod t 2 = 0 ∨ Int.tmod t 2 = 1) (hsi : inB s 3 6 = true) (hR : R = 53 ∨ R = 85) (D : Int) (hD : Int.tmod t 2 = 0 → D = W) (hD1 : Int.tmod t 2 = 1 → D = H) (hl1 : (l.length : Int) ≠ D) :
    Calls Try.prog 17 #[.agg #[.int .i64 W, .int .i64 H, .slice a np cp], .agg #[.int .i64 t, .int .i64 s, .int .i64 R, tv, lv]] w fun e w' => e = .returned (.agg #[.int .i64 6, .int .i64 (-2)]) ∧ Below w.heap.size w w' := by
  rcases hp with hp | hp
  · have hDW := hD hp
    rcases hR with hR | hR
    · exact ff_len1_0_53 W H a np cp t s R tv lv l o w ht hl h hti hp hsi hR (by rw [← hDW]; simpa using hl1)
    · exact ff_len1_0_85 W H a np cp t s R tv lv l o w ht hl h hti hp hsi hR (by rw [← hDW]; simpa using hl1)
  · have hDW := hD1 hp
    rcases hR with hR | hR
    · exact ff_len1_1_53 W H a np cp t s R tv lv l o w ht hl h hti hp hsi hR (by rw [← hDW]; simpa using hl1)
    · exact ff_len1_1_85 W H a np cp t s R tv lv l o w ht hl h hti hp hsi hR (by rw [← hDW]; simpa using hl1)

set_option maxRecDepth 100000 in
set_option maxHeartbeats 4000000 in
theorem ffc_len2 (W H : Int) (a : Option Addr) (np cp : Nat) (t s R : Int) (tv lv : Value) (l o : List Int) (w : World) (ht : Reads (Value.int .i64) w tv l) (hl : Reads (Value.int .i64) w lv o) (h : imageFaultF W H np = (0, 0)) (hti : inB t 0 7 = true) (hp : Int.tmod t 2 = 0 ∨ Int.tmod t 2 = 1) (hsi : inB s 3 6 = true) (hR : R = 53 ∨ R = 85) (D : Int) (hD : Int.tmod t 2 = 0 → D = W) (hD1 : Int.tmod t 2 = 1 → D = H) (hl1 : (l.length : Int) = D) (hl2 : (o.length : Int) ≠ R * s) :
    Calls Try.prog 17 #[.agg #[.int .i64 W, .int .i64 H, .slice a np cp], .agg #[.int .i64 t, .int .i64 s, .int .i64 R, tv, lv]] w fun e w' => e = .returned (.agg #[.int .i64 6, .int .i64 (-2)]) ∧ Below w.heap.size w w' := by
  rcases hp with hp | hp
  · have hDW := hD hp
    rcases hR with hR | hR
    · exact ff_len2_0_53 W H a np cp t s R tv lv l o w ht hl h hti hp hsi hR (by rw [← hDW]; exact hl1) (by rw [← hR]; simpa using hl2)
    · exact ff_len2_0_85 W H a np cp t s R tv lv l o w ht hl h hti hp hsi hR (by rw [← hDW]; exact hl1) (by rw [← hR]; simpa using hl2)
  · have hDW := hD1 hp
    rcases hR with hR | hR
    · exact ff_len2_1_53 W H a np cp t s R tv lv l o w ht hl h hti hp hsi hR (by rw [← hDW]; exact hl1) (by rw [← hR]; simpa using hl2)
    · exact ff_len2_1_85 W H a np cp t s R tv lv l o w ht hl h hti hp hsi hR (by rw [← hDW]; exact hl1) (by rw [← hR]; simpa using hl2)

set_option maxRecDepth 100000 in
set_option maxHeartbeats 4000000 in
theorem ffc_tops (W H : Int) (a : Option Addr) (np cp : Nat) (t s R : Int) (tv lv : Value) (l o : List Int) (w : World) (ht : Reads (Value.int .i64) w tv l) (hl : Reads (Value.int .i64) w lv o) (h : imageFaultF W H np = (0, 0)) (hti : inB t 0 7 = true) (hp : Int.tmod t 2 = 0 ∨ Int.tmod t 2 = 1) (hsi : inB s 3 6 = true) (hR : R = 53 ∨ R = 85) (D : Int) (hD : Int.tmod t 2 = 0 → D = W) (hD1 : Int.tmod t 2 = 1 → D = H) (hl1 : (l.length : Int) = D) (hl2 : (o.length : Int) = R * s) (hok : listOk l = false) :
    Calls Try.prog 17 #[.agg #[.int .i64 W, .int .i64 H, .slice a np cp], .agg #[.int .i64 t, .int .i64 s, .int .i64 R, tv, lv]] w fun e w' => e = .returned (.agg #[.int .i64 6, .int .i64 (-2)]) ∧ Below w.heap.size w w' := by
  rcases hp with hp | hp
  · have hDW := hD hp
    rcases hR with hR | hR
    · exact ff_tops_0_53 W H a np cp t s R tv lv l o w ht hl h hti hp hsi hR (by rw [← hDW]; exact hl1) (by rw [← hR]; simpa using hl2) hok
    · exact ff_tops_0_85 W H a np cp t s R tv lv l o w ht hl h hti hp hsi hR (by rw [← hDW]; exact hl1) (by rw [← hR]; simpa using hl2) hok
  · have hDW := hD1 hp
    rcases hR with hR | hR
    · exact ff_tops_1_53 W H a np cp t s R tv lv l o w ht hl h hti hp hsi hR (by rw [← hDW]; exact hl1) (by rw [← hR]; simpa using hl2) hok
    · exact ff_tops_1_85 W H a np cp t s R tv lv l o w ht hl h hti hp hsi hR (by rw [← hDW]; exact hl1) (by rw [← hR]; simpa using hl2) hok

set_option maxRecDepth 100000 in
set_option maxHeartbeats 4000000 in
theorem ffc_lefts (W H : Int) (a : Option Addr) (np cp : Nat) (t s R : Int) (tv lv : Value) (l o : List Int) (w : World) (ht : Reads (Value.int .i64) w tv l) (hl : Reads (Value.int .i64) w lv o) (h : imageFaultF W H np = (0, 0)) (hti : inB t 0 7 = true) (hp : Int.tmod t 2 = 0 ∨ Int.tmod t 2 = 1) (hsi : inB s 3 6 = true) (hR : R = 53 ∨ R = 85) (D : Int) (hD : Int.tmod t 2 = 0 → D = W) (hD1 : Int.tmod t 2 = 1 → D = H) (hl1 : (l.length : Int) = D) (hl2 : (o.length : Int) = R * s) (hok : listOk l = true) (hoo : listOk o = false) :
    Calls Try.prog 17 #[.agg #[.int .i64 W, .int .i64 H, .slice a np cp], .agg #[.int .i64 t, .int .i64 s, .int .i64 R, tv, lv]] w fun e w' => e = .returned (.agg #[.int .i64 6, .int .i64 (-2)]) ∧ Below w.heap.size w w' := by
  rcases hp with hp | hp
  · have hDW := hD hp
    rcases hR with hR | hR
    · exact ff_lefts_0_53 W H a np cp t s R tv lv l o w ht hl h hti hp hsi hR (by rw [← hDW]; exact hl1) (by rw [← hR]; simpa using hl2) hok hoo
    · exact ff_lefts_0_85 W H a np cp t s R tv lv l o w ht hl h hti hp hsi hR (by rw [← hDW]; exact hl1) (by rw [← hR]; simpa using hl2) hok hoo
  · have hDW := hD1 hp
    rcases hR with hR | hR
    · exact ff_lefts_1_53 W H a np cp t s R tv lv l o w ht hl h hti hp hsi hR (by rw [← hDW]; exact hl1) (by rw [← hR]; simpa using hl2) hok hoo
    · exact ff_lefts_1_85 W H a np cp t s R tv lv l o w ht hl h hti hp hsi hR (by rw [← hDW]; exact hl1) (by rw [← hR]; simpa using hl2) hok hoo

set_option maxRecDepth 100000 in
set_option maxHeartbeats 4000000 in
theorem ffc_ok (W H : Int) (a : Option Addr) (np cp : Nat) (t s R : Int) (tv lv : Value) (l o : List Int) (w : World) (ht : Reads (Value.int .i64) w tv l) (hl : Reads (Value.int .i64) w lv o) (h : imageFaultF W H np = (0, 0)) (hti : inB t 0 7 = true) (hp : Int.tmod t 2 = 0 ∨ Int.tmod t 2 = 1) (hsi : inB s 3 6 = true) (hR : R = 53 ∨ R = 85) (D : Int) (hD : Int.tmod t 2 = 0 → D = W) (hD1 : Int.tmod t 2 = 1 → D = H) (hl1 : (l.length : Int) = D) (hl2 : (o.length : Int) = R * s) (hok : listOk l = true) (hoo : listOk o = true) :
    Calls Try.prog 17 #[.agg #[.int .i64 W, .int .i64 H, .slice a np cp], .agg #[.int .i64 t, .int .i64 s, .int .i64 R, tv, lv]] w fun e w' => e = .returned (.agg #[.int .i64 0, .int .i64 0]) ∧ Below w.heap.size w w' := by
  rcases hp with hp | hp
  · have hDW := hD hp
    rcases hR with hR | hR
    · exact ff_ok_0_53 W H a np cp t s R tv lv l o w ht hl h hti hp hsi hR (by rw [← hDW]; exact hl1) (by rw [← hR]; simpa using hl2) hok hoo
    · exact ff_ok_0_85 W H a np cp t s R tv lv l o w ht hl h hti hp hsi hR (by rw [← hDW]; exact hl1) (by rw [← hR]; simpa using hl2) hok hoo
  · have hDW := hD1 hp
    rcases hR with hR | hR
    · exact ff_ok_1_53 W H a np cp t s R tv lv l o w ht hl h hti hp hsi hR (by rw [← hDW]; exact hl1) (by rw [← hR]; simpa using hl2) hok hoo
    · exact ff_ok_1_85 W H a np cp t s R tv lv l o w ht hl h hti hp hsi hR (by rw [← hDW]; exact hl1) (by rw [← hR]; simpa using hl2) hok hoo

theorem turn_dim (W H : Nat) (px : List Int) (t : Nat) (ht : t < 8) : (turnI (W, H, px) (invF t).toNat).1 = if t % 2 = 0 then W else H := by
  have : t = 0 ∨ t = 1 ∨ t = 2 ∨ t = 3 ∨ t = 4 ∨ t = 5 ∨ t = 6 ∨ t = 7 := by omega
  rcases this with rfl | rfl | rfl | rfl | rfl | rfl | rfl | rfl <;> rfl

set_option maxRecDepth 100000 in
set_option maxHeartbeats 4000000 in
theorem law3_bad4m1 (W H : Int) (a : Option Addr) (np cp : Nat) (t s R : Int) (a1 a2 : Option Addr) (n1 c1 n2 c2 : Nat) (tv lv : Value) (w : World) (htv : tv = .slice a1 n1 c1) (hlv : lv = .slice a2 n2 c2)
    (hL : ∀ wz, Below w.heap.size w wz → Calls Try.prog 16 #[.agg #[.int .i64 W, .int .i64 H, .slice a np cp], .agg #[.int .i64 t, .int .i64 s, .int .i64 R, tv, lv]] wz fun e w' => e = .returned (.tuple #[.int .i64 0, .int .i64 0, .agg #[.int .i64 4, .int .i64 (-1)]]) ∧ Below wz.heap.size wz w')
    (hF : ∀ wz, Below w.heap.size w wz → Calls Try.prog 17 #[.agg #[.int .i64 W, .int .i64 H, .slice a np cp], .agg #[.int .i64 t, .int .i64 s, .int .i64 R, tv, lv]] wz fun e w' => e = .returned (.agg #[.int .i64 4, .int .i64 (-1)]) ∧ Below wz.heap.size wz w') :
    Calls Try.prog 5 #[.agg #[.int .i64 W, .int .i64 H, .slice a np cp], .agg #[.int .i64 t, .int .i64 s, .int .i64 R, tv, lv]] w fun e w' => e = .returned (.bool true) ∧ Below w.heap.size w w' := by
  subst htv hlv
  have HF := Lib.hid hF
  have HL := Lib.hid hL
  clear hL hF
  go_enter Try.func5, Try.ntmps5
  go_wp2_with fail
  generalize hW0 : World.alloc (World.alloc w _) _ = W0
  have E0 : L3Env w #[.int .i64 W, .int .i64 H, .slice a np cp] #[.int .i64 t, .int .i64 s, .int .i64 R, .slice a1 n1 c1, .slice a2 n2 c2] W0 := by rw [← hW0]; exact ⟨(by repeat (first | (with_reducible exact Below.refl _ _) | (with_reducible assumption) | ((with_reducible refine Below.setCell ?_ ?_ _); rotate_left; (focus (first | omega | (simp; done) | (simp; omega)))) | (with_reducible refine Below.drew ?_) | (with_reducible refine below_drewN ?_ _) | ((with_reducible refine Below.alloc ?_ ?_ _); rotate_left; (focus (first | omega | (simp; done) | (simp; omega)))))), (Blk.new _ _ _).alloc _, Blk.newAt _ _ (by simp)⟩
  clear hW0
  obtain ⟨k0, k1, k2, kf, klt⟩ := E0.img.d3
  obtain ⟨g0, g1, g2, g3, g4, gf, glt⟩ := E0.frame.d5
  go_wp2_with fail
  refine (HL.out _ E0.below).mono ?_
  rintro e w1 ⟨rfl, hb1⟩
  have E1 := E0.keep hb1
  clear E0 k0 k1 k2 kf klt g0 g1 g2 g3 g4 gf glt hb1 HL
  obtain ⟨k0, k1, k2, kf, klt⟩ := E1.img.d3
  obtain ⟨g0, g1, g2, g3, g4, gf, glt⟩ := E1.frame.d5
  have klt1 : w.heap.size < w1.heap.size + 1 := by omega
  have glt1 : w.heap.size + 1 < w1.heap.size + 1 := by omega
  dsimp only
  go_wp2_with fail
  generalize hW2 : World.alloc w1 _ = W2
  have E2 : L3Env w #[.int .i64 W, .int .i64 H, .slice a np cp] #[.int .i64 t, .int .i64 s, .int .i64 R, .slice a1 n1 c1, .slice a2 n2 c2] W2 := by rw [← hW2]; exact E1.keep (below_alloc _ _)
  have D2 : Blk W2 w1.heap.size #[.int .i64 4, .int .i64 (-1)] 27 := by rw [← hW2]; exact Blk.new _ _ _
  clear hW2 E1 k0 k1 k2 kf klt klt1 g0 g1 g2 g3 g4 gf glt glt1
  refine (HF.out W2 E2.below).mono ?_
  rintro e w3 ⟨rfl, hb3⟩
  have E3 := E2.keep hb3
  have D3 := D2.keep hb3 D2.lt
  obtain ⟨d0, d1, df, dlt⟩ := D3.d2
  have dlt1 : w1.heap.size < w3.heap.size + 1 := by omega
  clear E2 D2 D3 hb3 HF
  dsimp only
  go_wp2_with fail
  refine (searched_any _).mono ?_
  rintro e w4 ⟨rfl, hb4⟩
  have hB := binto E3.below (binto (below_alloc w3 _) hb4)
  dsimp only
  go_wp2_with fail
  go_ret
  exact ⟨rfl, hB⟩

set_option maxRecDepth 100000 in
set_option maxHeartbeats 4000000 in
theorem law3_bad4m2 (W H : Int) (a : Option Addr) (np cp : Nat) (t s R : Int) (a1 a2 : Option Addr) (n1 c1 n2 c2 : Nat) (tv lv : Value) (w : World) (htv : tv = .slice a1 n1 c1) (hlv : lv = .slice a2 n2 c2)
    (hL : ∀ wz, Below w.heap.size w wz → Calls Try.prog 16 #[.agg #[.int .i64 W, .int .i64 H, .slice a np cp], .agg #[.int .i64 t, .int .i64 s, .int .i64 R, tv, lv]] wz fun e w' => e = .returned (.tuple #[.int .i64 0, .int .i64 0, .agg #[.int .i64 4, .int .i64 (-2)]]) ∧ Below wz.heap.size wz w')
    (hF : ∀ wz, Below w.heap.size w wz → Calls Try.prog 17 #[.agg #[.int .i64 W, .int .i64 H, .slice a np cp], .agg #[.int .i64 t, .int .i64 s, .int .i64 R, tv, lv]] wz fun e w' => e = .returned (.agg #[.int .i64 4, .int .i64 (-2)]) ∧ Below wz.heap.size wz w') :
    Calls Try.prog 5 #[.agg #[.int .i64 W, .int .i64 H, .slice a np cp], .agg #[.int .i64 t, .int .i64 s, .int .i64 R, tv, lv]] w fun e w' => e = .returned (.bool true) ∧ Below w.heap.size w w' := by
  subst htv hlv
  have HF := Lib.hid hF
  have HL := Lib.hid hL
  clear hL hF
  go_enter Try.func5, Try.ntmps5
  go_wp2_with fail
  generalize hW0 : World.alloc (World.alloc w _) _ = W0
  have E0 : L3Env w #[.int .i64 W, .int .i64 H, .slice a np cp] #[.int .i64 t, .int .i64 s, .int .i64 R, .slice a1 n1 c1, .slice a2 n2 c2] W0 := by rw [← hW0]; exact ⟨(by repeat (first | (with_reducible exact Below.refl _ _) | (with_reducible assumption) | ((with_reducible refine Below.setCell ?_ ?_ _); rotate_left; (focus (first | omega | (simp; done) | (simp; omega)))) | (with_reducible refine Below.drew ?_) | (with_reducible refine below_drewN ?_ _) | ((with_reducible refine Below.alloc ?_ ?_ _); rotate_left; (focus (first | omega | (simp; done) | (simp; omega)))))), (Blk.new _ _ _).alloc _, Blk.newAt _ _ (by simp)⟩
  clear hW0
  obtain ⟨k0, k1, k2, kf, klt⟩ := E0.img.d3
  obtain ⟨g0, g1, g2, g3, g4, gf, glt⟩ := E0.frame.d5
  go_wp2_with fail
  refine (HL.out _ E0.below).mono ?_
  rintro e w1 ⟨rfl, hb1⟩
  have E1 := E0.keep hb1
  clear E0 k0 k1 k2 kf klt g0 g1 g2 g3 g4 gf glt hb1 HL
  obtain ⟨k0, k1, k2, kf, klt⟩ := E1.img.d3
  obtain ⟨g0, g1, g2, g3, g4, gf, glt⟩ := E1.frame.d5
  have klt1 : w.heap.size < w1.heap.size + 1 := by omega
  have glt1 : w.heap.size + 1 < w1.heap.size + 1 := by omega
  dsimp only
  go_wp2_with fail
  generalize hW2 : World.alloc w1 _ = W2
  have E2 : L3Env w #[.int .i64 W, .int .i64 H, .slice a np cp] #[.int .i64 t, .int .i64 s, .int .i64 R, .slice a1 n1 c1, .slice a2 n2 c2] W2 := by rw [← hW2]; exact E1.keep (below_alloc _ _)
  have D2 : Blk W2 w1.heap.size #[.int .i64 4, .int .i64 (-2)] 27 := by rw [← hW2]; exact Blk.new _ _ _
  clear hW2 E1 k0 k1 k2 kf klt klt1 g0 g1 g2 g3 g4 gf glt glt1
  refine (HF.out W2 E2.below).mono ?_
  rintro e w3 ⟨rfl, hb3⟩
  have E3 := E2.keep hb3
  have D3 := D2.keep hb3 D2.lt
  obtain ⟨d0, d1, df, dlt⟩ := D3.d2
  have dlt1 : w1.heap.size < w3.heap.size + 1 := by omega
  clear E2 D2 D3 hb3 HF
  dsimp only
  go_wp2_with fail
  refine (searched_any _).mono ?_
  rintro e w4 ⟨rfl, hb4⟩
  have hB := binto E3.below (binto (below_alloc w3 _) hb4)
  dsimp only
  go_wp2_with fail
  go_ret
  exact ⟨rfl, hB⟩

set_option maxRecDepth 100000 in
set_option maxHeartbeats 4000000 in
theorem law3_bad9m3 (W H : Int) (a : Option Addr) (np cp : Nat) (t s R : Int) (a1 a2 : Option Addr) (n1 c1 n2 c2 : Nat) (tv lv : Value) (w : World) (htv : tv = .slice a1 n1 c1) (hlv : lv = .slice a2 n2 c2)
    (hL : ∀ wz, Below w.heap.size w wz → Calls Try.prog 16 #[.agg #[.int .i64 W, .int .i64 H, .slice a np cp], .agg #[.int .i64 t, .int .i64 s, .int .i64 R, tv, lv]] wz fun e w' => e = .returned (.tuple #[.int .i64 0, .int .i64 0, .agg #[.int .i64 9, .int .i64 (-3)]]) ∧ Below wz.heap.size wz w')
    (hF : ∀ wz, Below w.heap.size w wz → Calls Try.prog 17 #[.agg #[.int .i64 W, .int .i64 H, .slice a np cp], .agg #[.int .i64 t, .int .i64 s, .int .i64 R, tv, lv]] wz fun e w' => e = .returned (.agg #[.int .i64 9, .int .i64 (-3)]) ∧ Below wz.heap.size wz w') :
    Calls Try.prog 5 #[.agg #[.int .i64 W, .int .i64 H, .slice a np cp], .agg #[.int .i64 t, .int .i64 s, .int .i64 R, tv, lv]] w fun e w' => e = .returned (.bool true) ∧ Below w.heap.size w w' := by
  subst htv hlv
  have HF := Lib.hid hF
  have HL := Lib.hid hL
  clear hL hF
  go_enter Try.func5, Try.ntmps5
  go_wp2_with fail
  generalize hW0 : World.alloc (World.alloc w _) _ = W0
  have E0 : L3Env w #[.int .i64 W, .int .i64 H, .slice a np cp] #[.int .i64 t, .int .i64 s, .int .i64 R, .slice a1 n1 c1, .slice a2 n2 c2] W0 := by rw [← hW0]; exact ⟨(by repeat (first | (with_reducible exact Below.refl _ _) | (with_reducible assumption) | ((with_reducible refine Below.setCell ?_ ?_ _); rotate_left; (focus (first | omega | (simp; done) | (simp; omega)))) | (with_reducible refine Below.drew ?_) | (with_reducible refine below_drewN ?_ _) | ((with_reducible refine Below.alloc ?_ ?_ _); rotate_left; (focus (first | omega | (simp; done) | (simp; omega)))))), (Blk.new _ _ _).alloc _, Blk.newAt _ _ (by simp)⟩
  clear hW0
  obtain ⟨k0, k1, k2, kf, klt⟩ := E0.img.d3
  obtain ⟨g0, g1, g2, g3, g4, gf, glt⟩ := E0.frame.d5
  go_wp2_with fail
  refine (HL.out _ E0.below).mono ?_
  rintro e w1 ⟨rfl, hb1⟩
  have E1 := E0.keep hb1
  clear E0 k0 k1 k2 kf klt g0 g1 g2 g3 g4 gf glt hb1 HL
  obtain ⟨k0, k1, k2, kf, klt⟩ := E1.img.d3
  obtain ⟨g0, g1, g2, g3, g4, gf, glt⟩ := E1.frame.d5
  have klt1 : w.heap.size < w1.heap.size + 1 := by omega
  have glt1 : w.heap.size + 1 < w1.heap.size + 1 := by omega
  dsimp only
  go_wp2_with fail
  generalize hW2 : World.alloc w1 _ = W2
  have E2 : L3Env w #[.int .i64 W, .int .i64 H, .slice a np cp] #[.int .i64 t, .int .i64 s, .int .i64 R, .slice a1 n1 c1, .slice a2 n2 c2] W2 := by rw [← hW2]; exact E1.keep (below_alloc _ _)
  have D2 : Blk W2 w1.heap.size #[.int .i64 9, .int .i64 (-3)] 27 := by rw [← hW2]; exact Blk.new _ _ _
  clear hW2 E1 k0 k1 k2 kf klt klt1 g0 g1 g2 g3 g4 gf glt glt1
  refine (HF.out W2 E2.below).mono ?_
  rintro e w3 ⟨rfl, hb3⟩
  have E3 := E2.keep hb3
  have D3 := D2.keep hb3 D2.lt
  obtain ⟨d0, d1, df, dlt⟩ := D3.d2
  have dlt1 : w1.heap.size < w3.heap.size + 1 := by omega
  clear E2 D2 D3 hb3 HF
  dsimp only
  go_wp2_with fail
  refine (searched_any _).mono ?_
  rintro e w4 ⟨rfl, hb4⟩
  have hB := binto E3.below (binto (below_alloc w3 _) hb4)
  dsimp only
  go_wp2_with fail
  go_ret
  exact ⟨rfl, hB⟩

set_option maxRecDepth 100000 in
set_option maxHeartbeats 4000000 in
theorem law3_bad6m2 (W H : Int) (a : Option Addr) (np cp : Nat) (t s R : Int) (a1 a2 : Option Addr) (n1 c1 n2 c2 : Nat) (tv lv : Value) (w : World) (htv : tv = .slice a1 n1 c1) (hlv : lv = .slice a2 n2 c2)
    (hL : ∀ wz, Below w.heap.size w wz → Calls Try.prog 16 #[.agg #[.int .i64 W, .int .i64 H, .slice a np cp], .agg #[.int .i64 t, .int .i64 s, .int .i64 R, tv, lv]] wz fun e w' => e = .returned (.tuple #[.int .i64 0, .int .i64 0, .agg #[.int .i64 6, .int .i64 (-2)]]) ∧ Below wz.heap.size wz w')
    (hF : ∀ wz, Below w.heap.size w wz → Calls Try.prog 17 #[.agg #[.int .i64 W, .int .i64 H, .slice a np cp], .agg #[.int .i64 t, .int .i64 s, .int .i64 R, tv, lv]] wz fun e w' => e = .returned (.agg #[.int .i64 6, .int .i64 (-2)]) ∧ Below wz.heap.size wz w') :
    Calls Try.prog 5 #[.agg #[.int .i64 W, .int .i64 H, .slice a np cp], .agg #[.int .i64 t, .int .i64 s, .int .i64 R, tv, lv]] w fun e w' => e = .returned (.bool true) ∧ Below w.heap.size w w' := by
  subst htv hlv
  have HF := Lib.hid hF
  have HL := Lib.hid hL
  clear hL hF
  go_enter Try.func5, Try.ntmps5
  go_wp2_with fail
  generalize hW0 : World.alloc (World.alloc w _) _ = W0
  have E0 : L3Env w #[.int .i64 W, .int .i64 H, .slice a np cp] #[.int .i64 t, .int .i64 s, .int .i64 R, .slice a1 n1 c1, .slice a2 n2 c2] W0 := by rw [← hW0]; exact ⟨(by repeat (first | (with_reducible exact Below.refl _ _) | (with_reducible assumption) | ((with_reducible refine Below.setCell ?_ ?_ _); rotate_left; (focus (first | omega | (simp; done) | (simp; omega)))) | (with_reducible refine Below.drew ?_) | (with_reducible refine below_drewN ?_ _) | ((with_reducible refine Below.alloc ?_ ?_ _); rotate_left; (focus (first | omega | (simp; done) | (simp; omega)))))), (Blk.new _ _ _).alloc _, Blk.newAt _ _ (by simp)⟩
  clear hW0
  obtain ⟨k0, k1, k2, kf, klt⟩ := E0.img.d3
  obtain ⟨g0, g1, g2, g3, g4, gf, glt⟩ := E0.frame.d5
  go_wp2_with fail
  refine (HL.out _ E0.below).mono ?_
  rintro e w1 ⟨rfl, hb1⟩
  have E1 := E0.keep hb1
  clear E0 k0 k1 k2 kf klt g0 g1 g2 g3 g4 gf glt hb1 HL
  obtain ⟨k0, k1, k2, kf, klt⟩ := E1.img.d3
  obtain ⟨g0, g1, g2, g3, g4, gf, glt⟩ := E1.frame.d5
  have klt1 : w.heap.size < w1.heap.size + 1 := by omega
  have glt1 : w.heap.size + 1 < w1.heap.size + 1 := by omega
  dsimp only
  go_wp2_with fail
  generalize hW2 : World.alloc w1 _ = W2
  have E2 : L3Env w #[.int .i64 W, .int .i64 H, .slice a np cp] #[.int .i64 t, .int .i64 s, .int .i64 R, .slice a1 n1 c1, .slice a2 n2 c2] W2 := by rw [← hW2]; exact E1.keep (below_alloc _ _)
  have D2 : Blk W2 w1.heap.size #[.int .i64 6, .int .i64 (-2)] 27 := by rw [← hW2]; exact Blk.new _ _ _
  clear hW2 E1 k0 k1 k2 kf klt klt1 g0 g1 g2 g3 g4 gf glt glt1
  refine (HF.out W2 E2.below).mono ?_
  rintro e w3 ⟨rfl, hb3⟩
  have E3 := E2.keep hb3
  have D3 := D2.keep hb3 D2.lt
  obtain ⟨d0, d1, df, dlt⟩ := D3.d2
  have dlt1 : w1.heap.size < w3.heap.size + 1 := by omega
  clear E2 D2 D3 hb3 HF
  dsimp only
  go_wp2_with fail
  refine (searched_any _).mono ?_
  rintro e w4 ⟨rfl, hb4⟩
  have hB := binto E3.below (binto (below_alloc w3 _) hb4)
  dsimp only
  go_wp2_with fail
  go_ret
  exact ⟨rfl, hB⟩

set_option maxRecDepth 100000 in
set_option maxHeartbeats 8000000 in
theorem law3_ok (W H : Nat) (a : Option Addr) (np cp : Nat) (px : List Int) (t : Nat) (s R : Int) (tv lv : Value) (l o : List Int) (w : World) (h : ImgOk w W H (.slice a np cp) px) (ht8 : t < 8) (ht : Reads (Value.int .i64) w tv l) (hl : Reads (Value.int .i64) w lv o)
    (hs : 3 ≤ s ∧ s ≤ 6) (hR : R = 53 ∨ R = 85) (j : Img) (hj : j = turnI (W, H, px) (invF t).toNat) (hW : (l.length : Int) = j.1) (hlen : (o.length : Int) = R * s) (hok : listOk l = true) (hoo : listOk o = true)
    (hF : ∀ wz, Below w.heap.size w wz → Calls Try.prog 17 #[.agg #[.int .i64 W, .int .i64 H, .slice a np cp], .agg #[.int .i64 t, .int .i64 s, .int .i64 R, tv, lv]] wz fun e w' => e = .returned (.agg #[.int .i64 0, .int .i64 0]) ∧ Below wz.heap.size wz w') :
    Calls Try.prog 5 #[.agg #[.int .i64 W, .int .i64 H, .slice a np cp], .agg #[.int .i64 t, .int .i64 s, .int .i64 R, tv, lv]] w fun e w' => e = .returned (.bool true) ∧ Below w.heap.size w w' := by
  have hio := h.iok
  have hjo : IOk j := by rw [hj]; exact hio.turn _
  obtain ⟨u, hu⟩ : ∃ u : Nat, invF t = (u : Int) := ⟨(invF t).toNat, by have := inv_rng (t := (t : Int)) ⟨by omega, by omega⟩; omega⟩
  have hu8 : u < 8 := by have := inv_rng (t := (t : Int)) ⟨by omega, by omega⟩; omega
  have hAG := fun wz hI hT hL => agree_ok W H a np cp px t s R tv lv l o wz hI ht8 hT hL hs hR j hj hW hlen hok hoo
  have hju : j = turnI (W, H, px) u := by rw [hj, hu]; simp
  have hUN := fun wz => undone_any t wz ht8
  rw [hu] at hUN
  have hTU := fun wz hr => turned_all (W, H, px) (a := a) (np := np) (cp := cp) (w := wz) u hio hr hu8
  rw [← hju] at hTU
  have hob : ∀ k, -1 ≤ o.getD k 0 ∧ o.getD k 0 ≤ 100000 := fun k => by
    by_cases hk : k < o.length
    · have := listOk_get hoo hk; omega
    · have : o.getD k 0 = 0 := by simp [List.getD, List.getElem?_eq_none (by omega : o.length ≤ k)]
      rw [this]; omega
  have hAN := fun g wz hI hT hL => agreeing_any j.1 j.2.1 t s R (some ⟨g, 0, none⟩) j.2.2.length j.2.2.length tv lv j.2.2 l o wz hI hT hL hW hok hob hs hR hlen
  generalize agreeN j.1 j.2.1 j.2.2 l o s (levN R) = nA at hAG hAN
  generalize allN (levN R) = nB at hAG hAN
  have HAG := Lib.hid hAG
  have HUN := Lib.hid hUN
  have HTU := Lib.hid hTU
  have HAN := Lib.hid hAN
  have HJO := Lib.hid hjo
  have HF := Lib.hid hF
  have HI := Lib.hid h
  have HT := Lib.hid ht
  have HL := Lib.hid hl
  obtain ⟨a1, c1, rfl, -⟩ := id ht
  obtain ⟨a2, c2, rfl, -⟩ := id hl
  clear hAG hUN hTU hAN hF hj hju hu hu8 hio hjo h ht hl hob hok hoo hs hR hW hlen ht8
  go_enter Try.func5, Try.ntmps5
  go_wp2_with fail
  generalize hW0 : World.alloc (World.alloc w _) _ = W0
  have E0 : L3Env w #[.int .i64 W, .int .i64 H, .slice a np cp] #[.int .i64 t, .int .i64 s, .int .i64 R, .slice a1 l.length c1, .slice a2 o.length c2] W0 := by rw [← hW0]; exact ⟨(by repeat (first | (with_reducible exact Below.refl _ _) | (with_reducible assumption) | ((with_reducible refine Below.setCell ?_ ?_ _); rotate_left; (focus (first | omega | (simp; done) | (simp; omega)))) | (with_reducible refine Below.drew ?_) | (with_reducible refine below_drewN ?_ _) | ((with_reducible refine Below.alloc ?_ ?_ _); rotate_left; (focus (first | omega | (simp; done) | (simp; omega)))))), (Blk.new _ _ _).alloc _, Blk.newAt _ _ (by simp)⟩
  clear hW0
  obtain ⟨k0, k1, k2, kf, klt⟩ := E0.img.d3
  obtain ⟨g0, g1, g2, g3, g4, gf, glt⟩ := E0.frame.d5
  go_wp2_with fail
  refine (HAG.out _ (HI.out.below E0.below) (HT.out.below E0.below) (HL.out.below E0.below)).mono ?_
  rintro e w1 ⟨rfl, hb1⟩
  have E1 := E0.keep hb1
  clear E0 k0 k1 k2 kf klt g0 g1 g2 g3 g4 gf glt hb1 HAG
  obtain ⟨k0, k1, k2, kf, klt⟩ := E1.img.d3
  obtain ⟨g0, g1, g2, g3, g4, gf, glt⟩ := E1.frame.d5
  have klt1 : w.heap.size < w1.heap.size + 1 := by omega
  have glt1 : w.heap.size + 1 < w1.heap.size + 1 := by omega
  dsimp only
  go_wp2_with fail
  generalize hW2 : World.alloc w1 _ = W2
  have E2 : L3Env w #[.int .i64 W, .int .i64 H, .slice a np cp] #[.int .i64 t, .int .i64 s, .int .i64 R, .slice a1 l.length c1, .slice a2 o.length c2] W2 := by rw [← hW2]; exact E1.keep (below_alloc _ _)
  have D2 : Blk W2 w1.heap.size #[.int .i64 0, .int .i64 0] 27 := by rw [← hW2]; exact Blk.new _ _ _
  clear hW2 E1 k0 k1 k2 kf klt klt1 g0 g1 g2 g3 g4 gf glt glt1
  refine (HF.out W2 E2.below).mono ?_
  rintro e w3 ⟨rfl, hb3⟩
  have E3 := E2.keep hb3
  have D3 := D2.keep hb3 D2.lt
  have hsz : w1.heap.size < w3.heap.size := D3.lt
  clear E2 D2 hb3 HF
  dsimp only
  go_wp2_with fail
  generalize hW4 : World.alloc w3 _ = W4
  have E4 := E3.keep (w1 := W4) (by rw [← hW4]; exact below_alloc _ _)
  have D4 : Blk W4 w1.heap.size #[.int .i64 0, .int .i64 0] 27 := D3.keep (B := w3.heap.size) (by rw [← hW4]; exact below_alloc _ _) hsz
  clear E3 D3 hW4 hsz
  generalize w1.heap.size = bD at *
  obtain ⟨k0, k1, k2, kf, klt⟩ := E4.img.d3
  obtain ⟨g0, g1, g2, g3, g4, gf, glt⟩ := E4.frame.d5
  have hS : W4.drew.cell? ⟨w.heap.size, 0, none⟩ = some (.int .i64 (W : Int)) ∧ W4.drew.cell? ⟨w.heap.size, 1, none⟩ = some (.int .i64 (H : Int)) ∧ W4.drew.cell? ⟨w.heap.size, 2, none⟩ = some (.slice a np cp) ∧ W4.drew.cell? ⟨w.heap.size + 1, 0, none⟩ = some (.int .i64 (t : Int)) ∧ W4.drew.cell? ⟨w.heap.size + 1, 1, none⟩ = some (.int .i64 s) ∧ W4.drew.cell? ⟨w.heap.size + 1, 2, none⟩ = some (.int .i64 R) ∧ W4.drew.cell? ⟨w.heap.size + 1, 3, none⟩ = some (.slice a1 l.length c1) ∧ W4.drew.cell? ⟨w.heap.size + 1, 4, none⟩ = some (.slice a2 o.length c2) := ⟨k0, k1, k2, g0, g1, g2, g3, g4⟩
  obtain ⟨k0', k1', k2', g0', g1', g2', g3', g4'⟩ := hS
  have klt' : w.heap.size < W4.drew.heap.size := klt
  have glt' : w.heap.size + 1 < W4.drew.heap.size := glt
  have hB4 : Below w.heap.size w W4.drew := E4.below.drew
  clear k0 k1 k2 kf klt g0 g1 g2 g3 g4 gf glt
  go_region_held3 (fun w' => w'.cell? ⟨w.heap.size, 0, none⟩ = some (.int .i64 (W : Int)) ∧ w'.cell? ⟨w.heap.size, 1, none⟩ = some (.int .i64 (H : Int)) ∧ w'.cell? ⟨w.heap.size, 2, none⟩ = some (.slice a np cp) ∧ w'.cell? ⟨w.heap.size + 1, 0, none⟩ = some (.int .i64 (t : Int)) ∧ w'.cell? ⟨w.heap.size + 1, 1, none⟩ = some (.int .i64 s) ∧ w'.cell? ⟨w.heap.size + 1, 2, none⟩ = some (.int .i64 R) ∧ w'.cell? ⟨w.heap.size + 1, 3, none⟩ = some (.slice a1 l.length c1) ∧ w'.cell? ⟨w.heap.size + 1, 4, none⟩ = some (.slice a2 o.length c2))
    (first | exact ⟨keep (binto (binto hbu hbt) hbv) k0' klt', keep (binto (binto hbu hbt) hbv) k1' klt', keep (binto (binto hbu hbt) hbv) k2' klt', keep (binto (binto hbu hbt) hbv) g0' glt', keep (binto (binto hbu hbt) hbv) g1' glt', keep (binto (binto hbu hbt) hbv) g2' glt', keep (binto (binto hbu hbt) hbv) g3' glt', keep (binto (binto hbu hbt) hbv) g4' glt'⟩ | exact ⟨keep (binto hbu hbt) k0' klt', keep (binto hbu hbt) k1' klt', keep (binto hbu hbt) k2' klt', keep (binto hbu hbt) g0' glt', keep (binto hbu hbt) g1' glt', keep (binto hbu hbt) g2' glt', keep (binto hbu hbt) g3' glt', keep (binto hbu hbt) g4' glt'⟩ | exact ⟨keep hbu k0' klt', keep hbu k1' klt', keep hbu k2' klt', keep hbu g0' glt', keep hbu g1' glt', keep hbu g2' glt', keep hbu g3' glt', keep hbu g4' glt'⟩ | exact ⟨k0', k1', k2', g0', g1', g2', g3', g4'⟩)
    (first | (go_at_call 20; refine (HUN.out _).mono ?_; rintro e wu ⟨rfl, hbu⟩) | (go_at_call 19; refine (HTU.out _ (HI.out.below (binto hB4 hbu)).rd).mono ?_; rintro e wt ⟨g, rfl, hg, hLp, hbt⟩) | (go_at_call 18; refine (HAN.out _ _ (HJO.out.imgL hLp) (HT.out.below (binto (binto hB4 hbu) hbt)) (HL.out.below (binto (binto hB4 hbu) hbt))).mono ?_; rintro e wv ⟨rfl, hbv⟩))
  all_goals
    have hbw : Below W4.heap.size W4 wv := (Below.refl W4.heap.size W4).drew.trans (binto (binto hbu hbt) hbv)
    have E6 := E4.keep hbw
    have D6 := D4.keep hbw D4.lt
    obtain ⟨d0, d1, df, dlt⟩ := D6.d2
    have hB6 := E6.below
    clear E4 D4 E6 D6 hbw hbu hbt hbv hLp k0' k1' k2' g0' g1' g2' g3' g4' klt' glt' hB4
    go_wp2_with fail
    refine (searched_any _).mono ?_
    rintro e w7 ⟨rfl, hb7⟩
    have hB := binto hB6 hb7
    dsimp only
    go_wp2_with fail
    go_ret
    exact ⟨rfl, hB⟩

theorem law3_any (W H : Int) (a : Option Addr) (np cp : Nat) (px : List Int) (t s R : Int) (tv lv : Value) (l o : List Int) (w : World) (hr : Reads (Value.int .u8) w (.slice a np cp) px) (hb : ∀ n ∈ px, 0 ≤ n ∧ n ≤ 255) (ht : Reads (Value.int .i64) w tv l) (hl : Reads (Value.int .i64) w lv o) (hs64 : -9223372036854775808 ≤ s ∧ s ≤ 9223372036854775807) :
    Calls Try.prog 5 #[.agg #[.int .i64 W, .int .i64 H, .slice a np cp], .agg #[.int .i64 t, .int .i64 s, .int .i64 R, tv, lv]] w fun e w' => e = .returned (.bool true) ∧ Below w.heap.size w w' := by
  obtain ⟨a1, c1, htv, -⟩ := id ht
  obtain ⟨a2, c2, hlv, -⟩ := id hl
  rcases imageFault_cases W H np with h | h | h | h
  · have h62 : ∀ (hO : ∀ wz, Below w.heap.size w wz → Calls Try.prog 49 #[.agg #[.int .i64 W, .int .i64 H, .slice a np cp], .agg #[.int .i64 t, .int .i64 s, .int .i64 R, tv, lv]] wz (OpenBad wz)) (hF : ∀ wz, Below w.heap.size w wz → Calls Try.prog 17 #[.agg #[.int .i64 W, .int .i64 H, .slice a np cp], .agg #[.int .i64 t, .int .i64 s, .int .i64 R, tv, lv]] wz fun e w' => e = .returned (.agg #[.int .i64 6, .int .i64 (-2)]) ∧ Below wz.heap.size wz w'),
        Calls Try.prog 5 #[.agg #[.int .i64 W, .int .i64 H, .slice a np cp], .agg #[.int .i64 t, .int .i64 s, .int .i64 R, tv, lv]] w fun e w' => e = .returned (.bool true) ∧ Below w.heap.size w w' :=
      fun hO hF => law3_bad6m2 W H a np cp t s R a1 a2 _ c1 _ c2 tv lv w htv hlv (fun wz hz => agree_bad W H _ t s R tv lv wz (fun wy hy => hO wy (binto hz hy))) hF
    cases hti : inB t 0 7 with
    | false => exact h62 (fun wz _ => open_bad_turn W H a np cp t s R tv lv wz h hti) (fun wz hz => ff_turn W H a np cp t s R tv lv l o wz (ht.below hz) (hl.below hz) h hti)
    | true =>
      have hti' := hti
      simp only [inB, Bool.and_eq_true, decide_eq_true_eq] at hti'
      have hp : Int.tmod t 2 = 0 ∨ Int.tmod t 2 = 1 := by
        rw [Int.tmod_eq_emod_of_nonneg hti'.1]; omega
      cases hsi : inB s 3 6 with
      | false => exact h62 (fun wz _ => open_bad_scale W H a np cp t s R tv lv wz h ⟨by omega, by omega⟩ hsi) (fun wz hz => by
          rcases hp with hp | hp
          · exact ff_scale0 W H a np cp t s R tv lv l o wz (ht.below hz) (hl.below hz) h hti hp hsi
          · exact ff_scale1 W H a np cp t s R tv lv l o wz (ht.below hz) (hl.below hz) h hti hp hsi)
      | true =>
        cases hrb : rowsB R with
        | false =>
          have hr12 : (R == 85) = false ∧ (R == 53) = false := by
            simp only [rowsB, Bool.or_eq_false_iff, beq_eq_false_iff_ne, decide_eq_false_iff_not] at hrb
            constructor <;> simp <;> omega
          exact h62 (fun wz _ => open_bad_rows W H a np cp t s R tv lv wz h ⟨by omega, by omega⟩ hsi hrb) (fun wz hz => by
            rcases hp with hp | hp
            · exact ff_rows0 W H a np cp t s R tv lv l o wz (ht.below hz) (hl.below hz) h hti hp hsi hr12.1 hr12.2
            · exact ff_rows1 W H a np cp t s R tv lv l o wz (ht.below hz) (hl.below hz) h hti hp hsi hr12.1 hr12.2)
        | true =>
          have hRR : R = 53 ∨ R = 85 := by
            simp only [rowsB, Bool.or_eq_true, beq_iff_eq, decide_eq_true_eq] at hrb
            omega
          have hss := hsi
          simp only [inB, Bool.and_eq_true, decide_eq_true_eq] at hss
          have hnp : np = px.length := by obtain ⟨_, _, e, _⟩ := hr; injection e
          obtain ⟨⟨h1, h2⟩, ⟨h3, h4⟩, h5⟩ := imageFault_ok h
          obtain ⟨Wn, rfl⟩ : ∃ n : Nat, W = n := ⟨W.toNat, by omega⟩
          obtain ⟨Hn, rfl⟩ : ∃ n : Nat, H = n := ⟨H.toNat, by omega⟩
          obtain ⟨tn, rfl⟩ : ∃ n : Nat, t = n := ⟨t.toNat, by omega⟩
          have hI : ImgOk w Wn Hn (.slice a np cp) px := ⟨h1, h2, h3, h4, by rw [← hnp]; exact h5, hb, hr⟩
          have ht8 : tn < 8 := by omega
          have hdim := turn_dim Wn Hn px tn ht8
          have hpm : Int.tmod (tn : Int) 2 = ((tn % 2 : Nat) : Int) := rfl
          obtain ⟨D, hDD⟩ : ∃ D, D = (turnI (Wn, Hn, px) (invF tn).toNat).1 := ⟨_, rfl⟩
          have hD0 : Int.tmod (tn : Int) 2 = 0 → (D : Int) = Wn := fun e => by rw [hDD, hdim, if_pos (by omega)]
          have hD1 : Int.tmod (tn : Int) 2 = 1 → (D : Int) = Hn := fun e => by rw [hDD, hdim, if_neg (by omega)]
          by_cases hl1 : (l.length : Int) = D
          · by_cases hl2 : (o.length : Int) = R * s
            · cases hok : listOk l with
              | false => exact h62 (fun wz hz => open_bad_tops Wn Hn a np cp px tn s R tv lv l o wz (hI.below hz) ht8 (ht.below hz) (hl.below hz) hss hRR (by rw [← hDD]; exact hl1) hl2 hok) (fun wz hz => ffc_tops _ _ a np cp _ s R tv lv l o wz (ht.below hz) (hl.below hz) h hti hp hsi hRR D hD0 hD1 hl1 hl2 hok)
              | true =>
                cases hoo : listOk o with
                | false => exact h62 (fun wz hz => open_bad_lefts Wn Hn a np cp px tn s R tv lv l o wz (hI.below hz) ht8 (ht.below hz) (hl.below hz) hss hRR (by rw [← hDD]; exact hl1) hl2 hok hoo) (fun wz hz => ffc_lefts _ _ a np cp _ s R tv lv l o wz (ht.below hz) (hl.below hz) h hti hp hsi hRR D hD0 hD1 hl1 hl2 hok hoo)
                | true => exact law3_ok Wn Hn a np cp px tn s R tv lv l o w hI ht8 ht hl hss hRR _ rfl (by rw [← hDD]; exact hl1) hl2 hok hoo (fun wz hz => ffc_ok _ _ a np cp _ s R tv lv l o wz (ht.below hz) (hl.below hz) h hti hp hsi hRR D hD0 hD1 hl1 hl2 hok hoo)
            · exact h62 (fun wz hz => open_bad_len2 Wn Hn a np cp px tn s R tv lv l o wz (hI.below hz) ht8 (ht.below hz) (hl.below hz) hss hRR (by rw [← hDD]; exact hl1) hl2) (fun wz hz => ffc_len2 _ _ a np cp _ s R tv lv l o wz (ht.below hz) (hl.below hz) h hti hp hsi hRR D hD0 hD1 hl1 hl2)
          · exact h62 (fun wz hz => open_bad_len1 Wn Hn a np cp px tn s R tv lv l o wz (hI.below hz) ht8 (ht.below hz) (hl.below hz) hss hRR (by rw [← hDD]; exact hl1)) (fun wz hz => ffc_len1 _ _ a np cp _ s R tv lv l o wz (ht.below hz) (hl.below hz) h hti hp hsi hRR D hD0 hD1 hl1)
  · exact law3_bad4m1 W H a np cp t s R a1 a2 _ c1 _ c2 tv lv w htv hlv (fun wz hz => agree_img1 W H _ t s R tv lv wz (fun wy hy => open_img1 W H a np cp t s R tv lv wy h)) (fun wz hz => ff_img1 W H a np cp t s R tv lv l o wz (ht.below hz) (hl.below hz) h)
  · exact law3_bad4m2 W H a np cp t s R a1 a2 _ c1 _ c2 tv lv w htv hlv (fun wz hz => agree_img2 W H _ t s R tv lv wz (fun wy hy => open_img2 W H a np cp t s R tv lv wy h)) (fun wz hz => ff_img2 W H a np cp t s R tv lv l o wz (ht.below hz) (hl.below hz) h)
  · exact law3_bad9m3 W H a np cp t s R a1 a2 _ c1 _ c2 tv lv w htv hlv (fun wz hz => agree_img3 W H _ t s R tv lv wz (fun wy hy => open_img3 W H a np cp t s R tv lv wy h)) (fun wz hz => ff_img3 W H a np cp t s R tv lv l o wz (ht.below hz) (hl.below hz) h)

end Go.Proofs.Ytnfgedbcfclnmaa

namespace Go.Proofs.Ytnfgedbcfclnmaa
open Go.ChangeShapes Go.WideShapes Go.ChangeAt Go.RowKit Go.Joins

section
variable {H : Type} {enc : TypeId × Value → H}
set_option maxRecDepth 100000 in
/-- A frame that came in, opened. -/
theorem open_frame {W : World} {v : Value} {d : DataW H} {p : List MemPlace} {base : Nat} (hval : Value.okWide Try.prog W .any base 43 v) (h : DataW.Trod enc Try.prog W 0 (fun _ => true) true 43 v d p) :
    ∃ (t s R : Int) (c3 c4 : Value) (l o : List Int), v = .agg #[.int .i64 t, .int .i64 s, .int .i64 R, c3, c4] ∧ Reads (Value.int .i64) W c3 l ∧ Reads (Value.int .i64) W c4 o ∧ (-9223372036854775808 ≤ s ∧ s ≤ 9223372036854775807) := by
  have hU := Try.underlying43
  obtain ⟨cs, rfl, hsz⟩ := okWide_struct hU hval
  have hC : Try.prog.cellsOf 43 = 5 := by kernel_rfl
  have hC1 : Try.prog.cellsOf 3 = 1 := by kernel_rfl
  have hC2 : Try.prog.cellsOf 25 = 1 := by kernel_rfl
  rw [hC] at hsz
  obtain ⟨lst⟩ := cs
  have hsz' : lst.length = 5 := by simpa using hsz
  match lst, hsz' with
  | [c0, c1, c2, c3, c4], _ =>
    obtain ⟨fuel, hf⟩ := h
    obtain ⟨xs, n, _, _, _, hlen, hx⟩ := DataW.trod_struct hU hf
    have hlen' : xs.length = 5 := by simpa using hlen
    match xs, hlen' with
    | [y0, y1, y2, y3, y4], _ =>
      have h0 := hx 0 _ rfl
      have h1 := hx 1 _ rfl
      have h2 := hx 2 _ rfl
      have h3 := hx 3 _ rfl
      have h4 := hx 4 _ rfl
      simp [Value.cells, hC1, hC2] at h0 h1 h2 h3 h4
      obtain ⟨t, e0, -, -⟩ := DataW.trod_int Try.underlying3 h0
      obtain ⟨s, e1, -, ws⟩ := DataW.trod_int Try.underlying3 h1
      obtain ⟨R, e2, -, -⟩ := DataW.trod_int Try.underlying3 h2
      simp at e0 e1 e2
      subst e0 e1 e2
      obtain ⟨l, hl, -⟩ := open_list h3
      obtain ⟨o, ho, -⟩ := open_list h4
      refine ⟨t, s, R, c3, c4, l, o, rfl, hl, ho, ?_⟩
      have hw' : (decide (-9223372036854775808 ≤ s) && decide (s ≤ 9223372036854775807)) = true := ws
      simpa using hw'
end

set_option maxRecDepth 100000 in
theorem law3_lifted (os : Os) (started : os.Started) (H : Type) (enc : TypeId × Value → H) :
    ReturnsInHanded {} Try.checked os 5 .any (Rows.locateAgreeMatchesSpecSpec.pre6 enc Try.prog Try.f5 Rows.locateAgreeMatchesSpecRow.domain false) (Rows.locateAgreeMatchesSpecSpec.post enc Try.prog Try.f5 false true false false) := by
  refine returnsInHanded_of_change (C := Try.checked) Try.own started (by kernel_rfl) Try.func5
    (ChangeSpec.witness6 (enc := enc) (C := Try.checked) false ⟨#[], #[.agg #[.int .i64 0, .int .i64 0, .slice none 0 0], .agg #[.int .i64 0, .int .i64 0, .int .i64 0, .slice none 0 0, .slice none 0 0]], []⟩ 8 (by kernel_rfl) (by kernel_rfl) (by kernel_rfl) (by kernel_rfl)) ?_
  intro W base args ds gs before hval0 hW hcnd _
  have hval : ∀ (j : Nat) t v, Try.f5.params[j]? = some t → args[j]? = some v → Value.okWide Try.prog W .any base t v := hval0
  have hW' := hW
  obtain ⟨p, q, hA0, hV, rfl, hfz, hnd⟩ := hW
  have hA : DataW.TrodAll enc Try.prog W 0 (fun _ => true) true Try.f5.params.toList args.toList ds p := hA0
  rw [Try.params5] at hA hval
  obtain ⟨v0, v1, d0, d1, p0, p1, rfl, rfl, rfl, h0, h1⟩ := trodAll_two hA
  obtain ⟨rfl, rfl⟩ := trodVars_none hV
  have k0 := h0
  have k1 := h1
  have lt0 : ∀ x ∈ p0, x.block < W.heap.size := by obtain ⟨m, hm⟩ := k0; exact DataW.trod_lt m _ _ _ hm
  have lt1 : ∀ x ∈ p1, x.block < W.heap.size := by obtain ⟨m, hm⟩ := k1; exact DataW.trod_lt m _ _ _ hm
  obtain ⟨x, y, a, np, cp, px, rfl, hr, hb⟩ := open_image (hval 0 24 v0 rfl rfl) h0
  obtain ⟨t, s, R, tv, lv, l, o, rfl, hl, ho, hs⟩ := open_frame (hval 1 43 v1 rfl rfl) h1
  clear hA0 hval0
  refine (law3_any x y a np cp px t s R tv lv l o W hr hb hl ho hs).mono fun e W' ⟨he, bel⟩ => ?_
  subst he
  exact ⟨_, rfl, _, _, _, [], _, [], hW', trodAll_mk1 (shut_bool Try.underlying4 _), trodAll_mk2 (Below.trod Try.laidOut (by kernel_rfl) (of_decide_eq_true (by kernel_rfl)) k0 bel lt0) (Below.trod Try.laidOut (by kernel_rfl) (of_decide_eq_true (by kernel_rfl)) k1 bel lt1), rfl, bel.frame _, fun h => by cases h⟩

theorem agree_holds : Rows.LocateAgreeMatchesSpecSaid :=
  OpenClaim.holds_of_wide 5 Try.f5 rfl rfl rfl rfl rfl rfl rfl ⟨rfl, rfl, rfl, rfl, rfl⟩ rfl rfl rfl rfl rfl (by kernel_rfl) Try.func5 (by kernel_rfl)
    (of_decide_eq_true (by kernel_rfl)) (by unfold Func.isWrapper; rw [if_neg (of_decide_eq_false (by kernel_rfl))]; exact ⟨rfl, rfl⟩)
    (fun os started H enc _ => law3_lifted os started H enc)

end Go.Proofs.Ytnfgedbcfclnmaa
