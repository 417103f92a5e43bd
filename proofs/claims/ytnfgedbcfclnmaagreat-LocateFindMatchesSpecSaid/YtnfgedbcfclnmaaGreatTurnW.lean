/- The walk of distort.Turn, for a valid image and a valid turn. -/
import Derived.Test.YtnfgedbcfclnmaaGreatTurnF
import Derived.Test.YtnfgedbcfclnmaaGreatValid
import Derived.Test.YtnfgedbcfclnmaaGreatCols
set_option linter.unusedVariables false
set_option linter.unusedSimpArgs false
namespace Go.Proofs.YtnfgedbcfclnmaaGreat
open Go.RowKit

theorem imageFaultF_ok2 {W H : Int} {n : Nat} (h1 : 1 ≤ W) (h2 : W ≤ 640) (h3 : 1 ≤ H) (h4 : H ≤ 640) (hn : (n : Int) = W * H) : imageFaultF W H n = (0, 0) := by
  have a : inB W 1 640 = true := by simp [inB]; omega
  have b : inB H 1 640 = true := by simp [inB]; omega
  simp [imageFaultF, a, b, hn]

theorem TuEnv.next {w wx w1 : World} {iv : Array Value} {bO g g' : Nat} {j j' : Img} (h : TuEnv w iv bO g j wx) (hb : Below wx.heap.size wx w1) (hg' : wx.heap.size ≤ g') (hL : LBlk w1 g' (j'.2.2.map (Value.int .u8)) 5) :
    TuEnv w iv bO g' j' (((w1.setCell ⟨bO, 0, none⟩ (.int .i64 j'.1)).setCell ⟨bO, 1, none⟩ (.int .i64 j'.2.1)).setCell ⟨bO, 2, none⟩ (.slice (some ⟨g', 0, none⟩) j'.2.2.length j'.2.2.length)) := by
  have hO := h.hO
  have hol := h.o.lt
  have hB := binto h.below hb
  exact ⟨(by repeat (first | (with_reducible exact Below.refl _ _) | (with_reducible assumption) | ((with_reducible refine Below.setCell ?_ ?_ _); rotate_left; (focus (first | omega | (simp; done) | (simp; omega)))) | (with_reducible refine Below.drew ?_) | (with_reducible refine below_drewN ?_ _) | ((with_reducible refine Below.alloc ?_ ?_ _); rotate_left; (focus (first | omega | (simp; done) | (simp; omega)))))), (h.img.keep hb h.img.lt).o3 (by omega), (h.res.keep hb h.res.lt).o3 (by omega), (h.f.keep hb h.f.lt).o3 (by omega), (h.o.keep hb h.o.lt).s3, ((hL.set_other (by simp; omega) _).set_other (by simp; omega) _).set_other (by simp; omega) _, hO, by omega, by omega⟩

set_option maxRecDepth 100000 in
set_option maxHeartbeats 4000000 in
theorem turn_any (W H : Nat) (a : Option Addr) (np cp : Nat) (px : List Int) (t : Nat) (w : World) (h : ImgOk w W H (.slice a np cp) px) (ht : t < 8) :
    Calls Tryz.prog 12 #[.agg #[.int .i64 W, .int .i64 H, .slice a np cp], .int .i64 t] w (TurnRet (turnI (W, H, px) t) w) := by
  have hI := h.iok
  have hnp : np = px.length := by obtain ⟨_, _, e, _⟩ := h.rd; injection e
  have hV := validate_any W H a np cp
  rw [imageFaultF_ok2 h.w1 h.w2 h.h1 h.h2 (by rw [hnp]; exact h.len)] at hV
  have HV := Lib.hid hV
  have hVT := validTurn_any t
  rw [show inB (t : Int) 0 7 = true by simp only [inB, Bool.and_eq_true, decide_eq_true_eq]; omega] at hVT
  have HVT := Lib.hid hVT
  have HI := Lib.hid h
  have HIO := Lib.hid hI
  obtain ⟨i0, hi0⟩ : ∃ i0 : Img, i0 = if 4 ≤ t then mirI (W, H, px) else (W, H, px) := ⟨_, rfl⟩
  obtain ⟨r, hr⟩ : ∃ r, r = t % 4 := ⟨_, rfl⟩
  have hres : turnI (W, H, px) t = quaN r i0 := by rw [hi0, hr]; rfl
  have hio0 : IOk i0 := by rw [hi0]; split; (· exact hI.mir); (· exact hI)
  have hr4 : r < 4 := by omega
  have hm : Int.tmod (t : Int) 4 = (r : Int) := by rw [hr]; rfl
  have hrw : IntKind.i64.wrap (r : Int) = r := IntWalk.i64_in _ (by omega)
  rw [hres]
  have HI0 := Lib.hid hi0
  have HIO0 := Lib.hid hio0
  clear hI hV hVT h hres hr hnp hio0 hi0
  go_enter Tryz.func12, Tryz.ntmps12
  go_wp2_with fail
  generalize hW0 : World.alloc (World.alloc (World.alloc w _) _) _ = W0
  have K0 : Blk W0 w.heap.size #[.int .i64 W, .int .i64 H, .slice a np cp] 24 := by rw [← hW0]; exact ((Blk.new _ _ _).alloc _).alloc _
  have R0 : Blk W0 (w.heap.size + 1) #[.int .i64 0, .int .i64 0, .slice none 0 0] 24 := by rw [← hW0]; exact (Blk.newAt _ _ (by simp)).alloc _
  have F0 : Blk W0 (w.heap.size + 1 + 1) #[.int .i64 0, .int .i64 0] 29 := by rw [← hW0]; exact Blk.newAt _ _ (by simp)
  have hB0 : Below w.heap.size w W0 := by rw [← hW0]; exact (by repeat (first | (with_reducible exact Below.refl _ _) | (with_reducible assumption) | ((with_reducible refine Below.setCell ?_ ?_ _); rotate_left; (focus (first | omega | (simp; done) | (simp; omega)))) | (with_reducible refine Below.drew ?_) | (with_reducible refine below_drewN ?_ _) | ((with_reducible refine Below.alloc ?_ ?_ _); rotate_left; (focus (first | omega | (simp; done) | (simp; omega))))))
  clear hW0
  obtain ⟨k0, k1, k2, kf, klt⟩ := K0.d3
  go_wp2_with fail
  refine (HV.out W0).mono ?_
  rintro e w1 ⟨rfl, hb1⟩
  have K1 := K0.keep hb1 K0.lt
  have R1 := R0.keep hb1 R0.lt
  have F1 := F0.keep hb1 F0.lt
  have hB1 := binto hB0 hb1
  clear k0 k1 k2 kf klt K0 R0 F0 hB0 hb1 HV
  obtain ⟨k0, k1, k2, kf, klt⟩ := K1.d3
  go_wp2_with (go_at_call 28; refine (HVT.out _).mono ?_; rintro e w' ⟨rfl, rfl⟩)
  generalize hW2 : World.alloc w1 _ = W2
  have K2 : Blk W2 w.heap.size #[.int .i64 W, .int .i64 H, .slice a np cp] 24 := by rw [← hW2]; exact K1.alloc _
  have R2 : Blk W2 (w.heap.size + 1) #[.int .i64 0, .int .i64 0, .slice none 0 0] 24 := by rw [← hW2]; exact R1.alloc _
  have F2 : Blk W2 (w.heap.size + 1 + 1) #[.int .i64 0, .int .i64 0] 29 := by rw [← hW2]; exact F1.alloc _
  have hB2 : Below w.heap.size w W2 := by rw [← hW2]; exact hB1.trans (by repeat (first | (with_reducible exact Below.refl _ _) | (with_reducible assumption) | ((with_reducible refine Below.setCell ?_ ?_ _); rotate_left; (focus (first | omega | (simp; done) | (simp; omega)))) | (with_reducible refine Below.drew ?_) | (with_reducible refine below_drewN ?_ _) | ((with_reducible refine Below.alloc ?_ ?_ _); rotate_left; (focus (first | omega | (simp; done) | (simp; omega))))))
  clear hW2 K1 R1 F1 hB1 k0 k1 k2 kf klt
  refine (copyOf_any W H a np cp px W2 (HI.out.below hB2)).mono ?_
  rintro e w3 ⟨g, rfl, hg, hL, hb3⟩
  have K3 := K2.keep hb3 K2.lt
  have R3 := R2.keep hb3 R2.lt
  have F3 := F2.keep hb3 F2.lt
  have hB3 := binto hB2 hb3
  have hfl := F2.lt
  clear K2 R2 F2 hB2
  dsimp only
  obtain ⟨W4, hW4⟩ : ∃ W4, W4 = w3.alloc (.cells #[.int .i64 W, .int .i64 H, .slice (some ⟨g, 0, none⟩) px.length px.length] 24) := ⟨_, rfl⟩
  have E4 : TuEnv w #[.int .i64 W, .int .i64 H, .slice a np cp] w3.heap.size g (W, H, px) W4 := by
    have := hL.lt
    have := hb3.size
    rw [hW4]
    exact ⟨hB3.trans (by repeat (first | (with_reducible exact Below.refl _ _) | (with_reducible assumption) | ((with_reducible refine Below.setCell ?_ ?_ _); rotate_left; (focus (first | omega | (simp; done) | (simp; omega)))) | (with_reducible refine Below.drew ?_) | (with_reducible refine below_drewN ?_ _) | ((with_reducible refine Below.alloc ?_ ?_ _); rotate_left; (focus (first | omega | (simp; done) | (simp; omega)))))), K3.alloc _, R3.alloc _, F3.alloc _, Blk.new _ _ _, hL.alloc _, by omega, by omega, by omega⟩
  have hsz := hb3.size
  clear K3 R3 F3 hB3 hL hb3
  have HW4 := Lib.hid hW4
  clear hW4
  obtain ⟨bO, hbO⟩ : ∃ bO, bO = w3.heap.size := ⟨_, rfl⟩
  rw [← hbO] at E4
  have HBO := Lib.hid hbO
  clear hbO
  by_cases h4 : 4 ≤ t
  · have hd4 : decide (4 ≤ (t : Int)) = true := by simp; omega
    have he4 : i0 = mirI (W, H, px) := by rw [HI0.out, if_pos h4]
    have HE4 := Lib.hid he4
    clear he4
    go_wp2_with fail
    rw [← HW4.out, ← HBO.out]
    refine (mirror_any W H _ _ _ px W4 (HIO.out.imgL E4.px)).mono ?_
    rintro e w5 ⟨g5, rfl, hg5, hL5, hb5⟩
    obtain ⟨o0, o1, o2, of, olt⟩ := (E4.o.keep hb5 E4.o.lt).d3
    have E5 : TuEnv w #[.int .i64 W, .int .i64 H, .slice a np cp] bO g5 i0 (((w5.setCell ⟨bO, 0, none⟩ (.int .i64 W)).setCell ⟨bO, 1, none⟩ (.int .i64 H)).setCell ⟨bO, 2, none⟩ (.slice (some ⟨g5, 0, none⟩) (mirL W H px).length (mirL W H px).length)) := by
      rw [HE4.out]
      exact E4.next (j' := mirI (W, H, px)) hb5 hg5 hL5
    clear E4 hb5 hL5
    dsimp only
    go_wp2_with fail
    generalize hW5 : World.setCell (World.setCell (World.setCell w5 _ _) _ _) _ _ = W5 at E5 ⊢
    clear hW5
    go_loopw [28] (fun x wr => ∃ (k g : Nat), x = .int .i64 k ∧ k ≤ r ∧ TuEnv w #[.int .i64 W, .int .i64 H, .slice a np cp] bO g (quaN k i0) wr) (fun x _ => r - (intOf x).toNat)
    case atStart => exact ⟨0, _, rfl, by omega, E5⟩
    case round =>
      clear E5
      obtain ⟨k, g1, rfl, hk, E⟩ := hrel
      obtain ⟨wb, rfl⟩ : ∃ wo : World, wo = wr := ⟨_, rfl⟩
      obtain ⟨j, hj⟩ : ∃ j, j = quaN k i0 := ⟨_, rfl⟩
      have hjo : IOk j := by rw [hj]; exact HIO0.out.quaN k
      by_cases hkr : k < r
      · have hd1 : decide ((k : Int) < (r : Int)) = true := by simp; omega
        have hj1 : quaN (k + 1) i0 = quaI j := by rw [hj]; rfl
        rw [← hj] at E
        have HJ1 := Lib.hid hj1
        clear hj hj1
        obtain ⟨o0, o1, o2, of, olt⟩ := E.o.d3
        have hI := hjo.imgL E.px
        have HIJ := Lib.hid hI
        have HJO := Lib.hid hjo
        clear hI hjo
        go_wp2_with fail
        refine (quarter_any j.1 j.2.1 _ _ _ j.2.2 wb HIJ.out).mono ?_
        rintro e w7 ⟨g7, rfl, hg7, hL7, hb7⟩
        have E7 := E.next (j' := quaI j) hb7 hg7 hL7
        have o0' := keep hb7 o0 olt
        have o1' := keep hb7 o1 olt
        have o2' := keep hb7 o2 olt
        have of' := keepF hb7 (of 0) olt
        have of1' := keepF hb7 (of 1) olt
        have of2' := keepF hb7 (of 2) olt
        have olt' := Nat.lt_of_lt_of_le olt hb7.size
        clear E hL7 hb7 o0 o1 o2 of olt HIJ
        dsimp only
        go_wp2_with fail
        go_roundw
        case rel => exact ⟨k + 1, g7, by go_num, by omega, by rw [HJ1.out]; exact E7⟩
        case measure => simp [intOf]; omega
      · obtain rfl : k = r := by omega
        rw [← hj] at E
        have HJ := Lib.hid hj
        obtain ⟨o0, o1, o2, of, olt⟩ := E.o.d3
        obtain ⟨r0, r1, r2, rf, rlt⟩ := E.res.d3
        obtain ⟨f0, f1, ff, flt⟩ := E.f.d2
        have hB := E.below
        have hg := E.hg
        have hL := E.px
        have hgl := hL.lt
        clear hj
        go_wp2_with fail
        refine bodyPost_ret (v := .tuple #[.agg #[.int .i64 j.1, .int .i64 j.2.1, .slice (some ⟨g1, 0, none⟩) j.2.2.length j.2.2.length], .agg #[.int .i64 0, .int .i64 0]]) (by simp [results, Tryz.results12, go_sem, r0, r1, r2, rf, rlt, f0, f1, ff, flt]) rfl ?_
        rw [← HJ.out]
        refine ⟨g1, rfl, by omega, ?_, (by repeat (first | (with_reducible exact Below.refl _ _) | (with_reducible assumption) | ((with_reducible refine Below.setCell ?_ ?_ _); rotate_left; (focus (first | omega | (simp; done) | (simp; omega)))) | (with_reducible refine Below.drew ?_) | (with_reducible refine below_drewN ?_ _) | ((with_reducible refine Below.alloc ?_ ?_ _); rotate_left; (focus (first | omega | (simp; done) | (simp; omega))))))⟩
        exact ((((hL.set_other (by simp; omega) _).set_other (by simp; omega) _).set_other (by simp; omega) _).set_other (by simp; omega) _).set_other (by simp; omega) _
  · have hd4 : decide (4 ≤ (t : Int)) = false := by simp; omega
    have he4 : i0 = (W, H, px) := by rw [HI0.out, if_neg h4]
    go_wp2_with fail
    rw [← HW4.out, ← HBO.out]
    have E5 := E4
    rw [← he4] at E5
    clear E4
    go_loopw [28] (fun x wr => ∃ (k g : Nat), x = .int .i64 k ∧ k ≤ r ∧ TuEnv w #[.int .i64 W, .int .i64 H, .slice a np cp] bO g (quaN k i0) wr) (fun x _ => r - (intOf x).toNat)
    case atStart => exact ⟨0, _, rfl, by omega, E5⟩
    case round =>
      clear E5
      obtain ⟨k, g1, rfl, hk, E⟩ := hrel
      obtain ⟨wb, rfl⟩ : ∃ wo : World, wo = wr := ⟨_, rfl⟩
      obtain ⟨j, hj⟩ : ∃ j, j = quaN k i0 := ⟨_, rfl⟩
      have hjo : IOk j := by rw [hj]; exact HIO0.out.quaN k
      by_cases hkr : k < r
      · have hd1 : decide ((k : Int) < (r : Int)) = true := by simp; omega
        have hj1 : quaN (k + 1) i0 = quaI j := by rw [hj]; rfl
        rw [← hj] at E
        have HJ1 := Lib.hid hj1
        clear hj hj1
        obtain ⟨o0, o1, o2, of, olt⟩ := E.o.d3
        have hI := hjo.imgL E.px
        have HIJ := Lib.hid hI
        have HJO := Lib.hid hjo
        clear hI hjo
        go_wp2_with fail
        refine (quarter_any j.1 j.2.1 _ _ _ j.2.2 wb HIJ.out).mono ?_
        rintro e w7 ⟨g7, rfl, hg7, hL7, hb7⟩
        have E7 := E.next (j' := quaI j) hb7 hg7 hL7
        have o0' := keep hb7 o0 olt
        have o1' := keep hb7 o1 olt
        have o2' := keep hb7 o2 olt
        have of' := keepF hb7 (of 0) olt
        have of1' := keepF hb7 (of 1) olt
        have of2' := keepF hb7 (of 2) olt
        have olt' := Nat.lt_of_lt_of_le olt hb7.size
        clear E hL7 hb7 o0 o1 o2 of olt HIJ
        dsimp only
        go_wp2_with fail
        go_roundw
        case rel => exact ⟨k + 1, g7, by go_num, by omega, by rw [HJ1.out]; exact E7⟩
        case measure => simp [intOf]; omega
      · obtain rfl : k = r := by omega
        rw [← hj] at E
        have HJ := Lib.hid hj
        obtain ⟨o0, o1, o2, of, olt⟩ := E.o.d3
        obtain ⟨r0, r1, r2, rf, rlt⟩ := E.res.d3
        obtain ⟨f0, f1, ff, flt⟩ := E.f.d2
        have hB := E.below
        have hg := E.hg
        have hL := E.px
        have hgl := hL.lt
        clear hj
        go_wp2_with fail
        refine bodyPost_ret (v := .tuple #[.agg #[.int .i64 j.1, .int .i64 j.2.1, .slice (some ⟨g1, 0, none⟩) j.2.2.length j.2.2.length], .agg #[.int .i64 0, .int .i64 0]]) (by simp [results, Tryz.results12, go_sem, r0, r1, r2, rf, rlt, f0, f1, ff, flt]) rfl ?_
        rw [← HJ.out]
        refine ⟨g1, rfl, by omega, ?_, (by repeat (first | (with_reducible exact Below.refl _ _) | (with_reducible assumption) | ((with_reducible refine Below.setCell ?_ ?_ _); rotate_left; (focus (first | omega | (simp; done) | (simp; omega)))) | (with_reducible refine Below.drew ?_) | (with_reducible refine below_drewN ?_ _) | ((with_reducible refine Below.alloc ?_ ?_ _); rotate_left; (focus (first | omega | (simp; done) | (simp; omega))))))⟩
        exact ((((hL.set_other (by simp; omega) _).set_other (by simp; omega) _).set_other (by simp; omega) _).set_other (by simp; omega) _).set_other (by simp; omega) _

end Go.Proofs.YtnfgedbcfclnmaaGreat
