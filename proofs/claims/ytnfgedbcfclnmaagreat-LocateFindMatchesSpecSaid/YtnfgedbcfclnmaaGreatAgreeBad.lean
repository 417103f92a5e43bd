/- locate.Agree for frames that do not fit. -/
import Derived.Test.YtnfgedbcfclnmaaGreatOpenBad
set_option linter.unusedVariables false
set_option linter.unusedSimpArgs false
namespace Go.Proofs.YtnfgedbcfclnmaaGreat
open Go.RowKit

structure AbEnv (w : World) (iv fv : Array Value) (wx : World) : Prop where
  below : Below w.heap.size w wx
  img : Blk wx w.heap.size iv 24
  frame : Blk wx (w.heap.size + 1) fv 27
  f : Blk wx (w.heap.size + 1 + 1) #[.int .i64 0, .int .i64 0] 29

set_option maxRecDepth 100000 in
set_option maxHeartbeats 4000000 in
theorem agree_bad (W H : Int) (pv : Value) (t s R : Int) (tv lv : Value) (w : World)
    (hO : ∀ wz, Below w.heap.size w wz → Calls Tryz.prog 48 #[.agg #[.int .i64 W, .int .i64 H, pv], .agg #[.int .i64 t, .int .i64 s, .int .i64 R, tv, lv]] wz fun e w' => e = .returned (.tuple #[.agg #[.int .i64 0, .int .i64 0, .slice none 0 0, .int .i64 0, .int .i64 0, .int .i64 0, .slice none 0 0, .slice none 0 0], .agg #[.int .i64 6, .int .i64 (-2)]]) ∧ Below wz.heap.size wz w') :
    Calls Tryz.prog 15 #[.agg #[.int .i64 W, .int .i64 H, pv], .agg #[.int .i64 t, .int .i64 s, .int .i64 R, tv, lv]] w fun e w' => e = .returned (.tuple #[.int .i64 0, .int .i64 0, .agg #[.int .i64 6, .int .i64 (-2)]]) ∧ Below w.heap.size w w' := by
  have HO := Lib.hid hO
  clear hO
  go_enter Tryz.func15, Tryz.ntmps15
  go_wp2_with fail
  generalize hW0 : World.alloc (World.alloc (World.alloc w _) _) _ = W0
  have E0 : AbEnv w #[.int .i64 W, .int .i64 H, pv] #[.int .i64 t, .int .i64 s, .int .i64 R, tv, lv] W0 := by
    rw [← hW0]
    exact ⟨(by repeat (first | (with_reducible exact Below.refl _ _) | (with_reducible assumption) | ((with_reducible refine Below.setCell ?_ ?_ _); rotate_left; (focus (first | omega | (simp; done) | (simp; omega)))) | (with_reducible refine Below.drew ?_) | (with_reducible refine below_drewN ?_ _) | ((with_reducible refine Below.alloc ?_ ?_ _); rotate_left; (focus (first | omega | (simp; done) | (simp; omega)))))), ((Blk.new _ _ _).alloc _).alloc _, (Blk.newAt _ _ (by simp)).alloc _, Blk.newAt _ _ (by simp)⟩
  clear hW0
  obtain ⟨k0, k1, k2, kf, klt⟩ := E0.img.d3
  obtain ⟨g0, g1, g2, g3, g4, gf, glt⟩ := E0.frame.d5
  go_wp2_with fail
  refine (HO.out W0 E0.below).mono ?_
  rintro e w1 ⟨rfl, hb1⟩
  have F1 := E0.f.keep hb1 E0.f.lt
  have hB := binto E0.below hb1
  have hfl := F1.lt
  clear E0 hb1 k0 k1 k2 kf klt g0 g1 g2 g3 g4 gf glt
  dsimp only
  go_wp2_with fail
  generalize hW2 : World.alloc (World.alloc w1 _) _ = W2
  have D2 : Blk W2 (w1.heap.size + 1) #[.int .i64 6, .int .i64 (-2)] 29 := by rw [← hW2]; exact Blk.newAt _ _ (by simp)
  have F2 : Blk W2 (w.heap.size + 1 + 1) #[.int .i64 0, .int .i64 0] 29 := by rw [← hW2]; exact (F1.alloc _).alloc _
  have hB2 : Below w.heap.size w W2 := by rw [← hW2]; exact hB.trans (by repeat (first | (with_reducible exact Below.refl _ _) | (with_reducible assumption) | ((with_reducible refine Below.setCell ?_ ?_ _); rotate_left; (focus (first | omega | (simp; done) | (simp; omega)))) | (with_reducible refine Below.drew ?_) | (with_reducible refine below_drewN ?_ _) | ((with_reducible refine Below.alloc ?_ ?_ _); rotate_left; (focus (first | omega | (simp; done) | (simp; omega))))))
  obtain ⟨f0, f1, ff, flt⟩ := F2.d2
  obtain ⟨d0, d1, df, dlt⟩ := D2.d2
  have hne1 : ¬ w.heap.size + 1 = w1.heap.size := by omega
  have hne2 : ¬ w1.heap.size = w.heap.size + 1 := by omega
  clear hW2 F1 F2 D2 hB
  go_region
  all_goals go_wp2_with fail
  all_goals exact bodyPost_ret (v := .tuple #[.int .i64 0, .int .i64 0, .agg #[.int .i64 6, .int .i64 (-2)]]) (by simp [results, Tryz.results15, go_sem, f0, f1, ff, flt]) rfl ⟨rfl, (by repeat (first | (with_reducible exact Below.refl _ _) | (with_reducible assumption) | ((with_reducible refine Below.setCell ?_ ?_ _); rotate_left; (focus (first | omega | (simp; done) | (simp; omega)))) | (with_reducible refine Below.drew ?_) | (with_reducible refine below_drewN ?_ _) | ((with_reducible refine Below.alloc ?_ ?_ _); rotate_left; (focus (first | omega | (simp; done) | (simp; omega))))))⟩

end Go.Proofs.YtnfgedbcfclnmaaGreat
