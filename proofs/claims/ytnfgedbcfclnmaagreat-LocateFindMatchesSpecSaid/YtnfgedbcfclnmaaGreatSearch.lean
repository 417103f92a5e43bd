/- The laws' own helpers: dot, nothing. -/
import Derived.Test.YtnfgedbcfclnmaaGreatFindW
set_option linter.unusedVariables false
set_option linter.unusedSimpArgs false
namespace Go.Proofs.YtnfgedbcfclnmaaGreat
open Go.RowKit

theorem below_alloc' {w : World} {B : Nat} (h : B ≤ w.heap.size) (o : Obj) : Below B w (w.alloc o) := (Below.refl _ _).alloc h _

set_option maxHeartbeats 1000000 in
theorem dot_any (w : World) : Calls Tryz.prog 20 #[] w (ImgRet 1 1 [255] w) := by
  go_enter Tryz.func20, Tryz.ntmps20
  go_wp2_with fail
  generalize hW0 : World.alloc (World.alloc w _) _ = W0
  have R0 : Blk W0 w.heap.size #[.int .i64 1, .int .i64 1, .slice (some ⟨w.heap.size + 1, 0, none⟩) 1 1] 24 := by rw [← hW0]; exact (Blk.new _ _ _).alloc _
  have L0 : LBlk W0 (w.heap.size + 1) [.int .u8 255] 5 := by rw [← hW0]; exact Blk.newAt _ _ (by simp)
  have hB : Below w.heap.size w W0 := by rw [← hW0]; exact (by repeat (first | (with_reducible exact Below.refl _ _) | (with_reducible assumption) | ((with_reducible refine Below.setCell ?_ ?_ _); rotate_left; (focus (first | omega | (simp; done) | (simp; omega)))) | (with_reducible refine Below.drew ?_) | (with_reducible refine below_drewN ?_ _) | ((with_reducible refine Below.alloc ?_ ?_ _); rotate_left; (focus (first | omega | (simp; done) | (simp; omega))))))
  obtain ⟨r0, r1, r2, rf, rlt⟩ := R0.d3
  exact bodyPost_ret (v := .agg #[.int .i64 1, .int .i64 1, .slice (some ⟨w.heap.size + 1, 0, none⟩) 1 1]) (by simp [results, Tryz.results20, go_sem, r0, r1, r2, rf, rlt]) rfl ⟨w.heap.size + 1, rfl, by omega, L0, hB⟩

structure NoEnv (w : World) (v : Value) (n : Nat) (wx : World) : Prop where
  below : Below w.heap.size w wx
  res : Blk wx w.heap.size #[.int .i64 0, .int .i64 0, .int .i64 0, .slice none 0 0, .slice none 0 0] 27
  tops : LBlk wx (w.heap.size + 1) [.int .i64 (-1)] 3
  f : Blk wx (w.heap.size + 1 + 1) #[.int .i64 0, .int .i64 3, .int .i64 85, .slice (some ⟨w.heap.size + 1, 0, none⟩) 1 1, v] 27
  own : wx.ownsRow (w.heap.size + 3) 3 1 v n (List.replicate n (.int .i64 (-1)))

set_option maxRecDepth 100000 in
set_option maxHeartbeats 2000000 in
theorem nothing_any (w : World) : Calls Tryz.prog 21 #[] w fun e w' => ∃ tv lv, e = .returned (.agg #[.int .i64 0, .int .i64 3, .int .i64 85, tv, lv]) ∧ Reads (Value.int .i64) w' tv [-1] ∧ Reads (Value.int .i64) w' lv (List.replicate 255 (-1)) ∧ Below w.heap.size w w' := by
  go_enter Tryz.func21, Tryz.ntmps21
  go_wp2_with fail
  generalize hW0 : World.alloc (World.alloc (World.alloc w _) _) _ = W0
  have E0 : NoEnv w (.slice none 0 0) 0 W0 := by
    rw [← hW0]
    exact ⟨(by repeat (first | (with_reducible exact Below.refl _ _) | (with_reducible assumption) | ((with_reducible refine Below.setCell ?_ ?_ _); rotate_left; (focus (first | omega | (simp; done) | (simp; omega)))) | (with_reducible refine Below.drew ?_) | (with_reducible refine below_drewN ?_ _) | ((with_reducible refine Below.alloc ?_ ?_ _); rotate_left; (focus (first | omega | (simp; done) | (simp; omega)))))), ((Blk.new _ _ _).alloc _).alloc _, LBlk.alloc (Blk.newAt _ _ (by simp)) _, Blk.newAt _ _ (by simp), World.ownsRow_nil _ _ _ _⟩
  clear hW0
  go_loopw [2] (fun x wr => ∃ (n : Nat) (v : Value), x = .int .i64 n ∧ n ≤ 255 ∧ NoEnv w v n wr) (fun x _ => 255 - (intOf x).toNat)
  case atStart => exact ⟨0, _, rfl, by omega, E0⟩
  case round =>
    clear E0
    obtain ⟨n, v, rfl, hn, E⟩ := hrel
    obtain ⟨wb, rfl⟩ : ∃ wo : World, wo = wr := ⟨_, rfl⟩
    obtain ⟨f0, f1, f2, f3, f4, ff, flt⟩ := E.f.d5
    obtain ⟨va, vc, rfl, -⟩ := own_reads (f := fun x : Int => Value.int .i64 x) (l := List.replicate n (-1)) (by rw [List.length_replicate, List.map_replicate]; exact E.own)
    rw [List.length_replicate] at *
    by_cases hlt : n < 255
    · have hd : decide ((n : Int) < 255) = true := by simp; omega
      have hsz := E.f.lt
      go_wp2_with (at_builtin; refine wp_app1 _ rfl _ _ 25 rfl (w.heap.size + 3) 3 (.int .i64 0) 1 8 Tryz.underlying25 Tryz.infoInt rfl (by decide) (by decide) _ _ _ rfl (E.own.alloc _) _ [.int .i64 (-1)] rfl rfl (Blk.new _ _ _) (by simp [Value.oneCell']) (by omega) (by simp; omega) ?_; intro v' w4 hown4 hg4; obtain ⟨g', c', hv', hg1, hg2, hg3, hg5⟩ := own_some hown4 (by omega); subst hv'; obtain ⟨e0, e1, e2, e3, e4, ef, elt⟩ := ((E.f.alloc _).grown hg4 (own_ne (E.own.alloc (.cells #[.int .i64 (-1)] 3)) (by omega))).d5)
      have h4 : NoEnv w (.slice (some ⟨g', 0, none⟩) (n + 1) c') (n + 1) (w4.setCell ⟨w.heap.size + 1 + 1, 4, none⟩ (.slice (some ⟨g', 0, none⟩) (n + 1) c')) := by
        have hB : Below w.heap.size w w4 := (E.below.trans (below_alloc' E.below.size _)).grown hg4 (by have := E.below.size; simp; omega) (fun j hj => by have := (E.own.lt j hj).1; omega)
        have ho := E.own.alloc (.cells #[.int .i64 (-1)] 3)
        refine ⟨(by repeat (first | (with_reducible exact Below.refl _ _) | (with_reducible assumption) | ((with_reducible refine Below.setCell ?_ ?_ _); rotate_left; (focus (first | omega | (simp; done) | (simp; omega)))) | (with_reducible refine Below.drew ?_) | (with_reducible refine below_drewN ?_ _) | ((with_reducible refine Below.alloc ?_ ?_ _); rotate_left; (focus (first | omega | (simp; done) | (simp; omega)))))), ((E.res.alloc _).grown hg4 (own_ne ho (by omega))).set_other (by simp; omega) _, LBlk.set_other (LBlk.grown (E.tops.alloc _) hg4 (own_ne ho (by omega))) (by simp) _, ?_, own_set ?_ (by omega) _⟩
        · exact Blk.set ((E.f.alloc _).grown hg4 (own_ne ho (by omega))) _
        · rw [List.replicate_succ']; exact hown4
      refine ⟨⟨n + 1, _, by go_num, by omega, h4⟩, by simp [intOf]; omega⟩
    · obtain rfl : n = 255 := by omega
      obtain ⟨r0, r1, r2, r3, r4, rf, rlt⟩ := E.res.d5
      have hB := E.below
      have ht := E.tops
      have hl := E.own
      go_wp2_with fail
      refine bodyPost_ret (v := .agg #[.int .i64 0, .int .i64 3, .int .i64 85, .slice (some ⟨w.heap.size + 1, 0, none⟩) 1 1, .slice va 255 vc]) (by simp [results, Tryz.results21, go_sem, r0, r1, r2, r3, r4, rf, rlt]) rfl ⟨_, _, rfl, ?_, ?_, (by repeat (first | (with_reducible exact Below.refl _ _) | (with_reducible assumption) | ((with_reducible refine Below.setCell ?_ ?_ _); rotate_left; (focus (first | omega | (simp; done) | (simp; omega)))) | (with_reducible refine Below.drew ?_) | (with_reducible refine below_drewN ?_ _) | ((with_reducible refine Below.alloc ?_ ?_ _); rotate_left; (focus (first | omega | (simp; done) | (simp; omega))))))⟩
      · refine lblk_reads (l := [-1]) (t := 3) ?_ (by decide)
        repeat (refine LBlk.set_other ?_ (by simp) _)
        exact ht
      · refine own_reads (base := w.heap.size + 3) (e := 3) ?_
        rw [List.length_replicate, List.map_replicate]
        repeat (refine own_set ?_ (by omega) _)
        exact hl

end Go.Proofs.YtnfgedbcfclnmaaGreat
