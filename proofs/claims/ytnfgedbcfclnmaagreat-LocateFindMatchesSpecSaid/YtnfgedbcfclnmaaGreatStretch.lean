/- The runs of dark pixels of a column: the reference's Stretch. -/
import Derived.Test.YtnfgedbcfclnmaaGreatRefA
set_option linter.unusedVariables false
set_option linter.unusedSimpArgs false
namespace Go.Proofs.YtnfgedbcfclnmaaGreat
open Go.RowKit

/-- What a column with the dark pixels D (none outside of 0 .. H-1) gives: first, last, upper run, lower run. -/
def StretchIs (D : Int → Bool) (r : Int × Int × Int × Int) : Prop :=
  ((∀ y, D y = false) ∧ r = (-1, -1, 0, 0)) ∨
  (D r.1 = true ∧ (∀ y, y < r.1 → D y = false) ∧ D r.2.1 = true ∧ (∀ y, r.2.1 < y → D y = false) ∧
   0 ≤ r.2.2.1 ∧ (∀ y, r.1 ≤ y → y < r.1 + r.2.2.1 → D y = true) ∧ D (r.1 + r.2.2.1) = false ∧
   0 ≤ r.2.2.2 ∧ (∀ y, r.2.1 - r.2.2.2 < y → y ≤ r.2.1 → D y = true) ∧ D (r.2.1 - r.2.2.2) = false)

theorem StretchIs.unique {D : Int → Bool} {r s : Int × Int × Int × Int} (h : StretchIs D r) (k : StretchIs D s) : r = s := by
  obtain ⟨r1, r2, r3, r4⟩ := r
  obtain ⟨s1, s2, s3, s4⟩ := s
  rcases h with ⟨h1, h2⟩ | ⟨h1, h2, h3, h4, h5, h6, h7, h8, h9, h10⟩ <;> rcases k with ⟨k1, k2⟩ | ⟨k1, k2, k3, k4, k5, k6, k7, k8, k9, k10⟩
  · rw [h2, k2]
  · rw [h1] at k1; cases k1
  · rw [k1] at h1; cases h1
  · dsimp only at *
    have e1 : r1 = s1 := by
      rcases Int.lt_trichotomy r1 s1 with e | e | e
      · rw [k2 _ e] at h1; cases h1
      · exact e
      · rw [h2 _ e] at k1; cases k1
    have e2 : r2 = s2 := by
      rcases Int.lt_trichotomy r2 s2 with e | e | e
      · rw [h4 _ e] at k3; cases k3
      · exact e
      · rw [k4 _ e] at h3; cases h3
    subst e1 e2
    have e3 : r3 = s3 := by
      rcases Int.lt_trichotomy r3 s3 with e | e | e
      · rw [k6 _ (by omega) (by omega)] at h7; cases h7
      · exact e
      · rw [h6 _ (by omega) (by omega)] at k7; cases k7
    have e4 : r4 = s4 := by
      rcases Int.lt_trichotomy r4 s4 with e | e | e
      · rw [k9 _ (by omega) (by omega)] at h10; cases h10
      · exact e
      · rw [h9 _ (by omega) (by omega)] at k10; cases k10
    subst e3 e4
    rfl

/-- Is the pixel of column x in row y dark? -/
def darkB (W H : Int) (px : List Int) (x y : Int) : Bool := decide (pixF W H px x y < 128)

theorem darkB_out {W H : Int} {px : List Int} {x y : Int} (h : ¬ (0 ≤ y ∧ y < H)) : darkB W H px x y = false := by
  have : inB y 0 (H - 1) = false := by simp [inB]; omega
  simp [darkB, pixF, this]

theorem dark_is {W H x y : Int} {pv : Value} {px : List Int} {t : Bool} (ht : darkB W H px x y = t) {w : World} (h : ImgOk w W H pv px) :
    Calls Tryz.prog 61 #[.agg #[.int .i64 W, .int .i64 H, pv], .int .i64 x, .int .i64 y] w fun e w' => e = .returned (.bool t) ∧ Below w.heap.size w w' :=
  ht ▸ dark_any W H x y pv px w h

/-- The state of the first loop of Stretch: rows y+1 .. H-1 have been looked at. -/
def StUp (D : Int → Bool) (H y a b : Int) : Prop :=
  -1 ≤ y ∧ y < H ∧ ((a = -1 ∧ b = -1 ∧ ∀ z, y < z → D z = false) ∨ (y < a ∧ a ≤ b ∧ b < H ∧ D a = true ∧ D b = true ∧ (∀ z, y < z → z < a → D z = false) ∧ ∀ z, b < z → D z = false))

theorem StUp.no {D : Int → Bool} {H y a b : Int} (h : StUp D H y a b) (hd : D y = false) (hy : 0 ≤ y) : StUp D H (y - 1) a b := by
  obtain ⟨h1, h2, h3⟩ := h
  refine ⟨by omega, by omega, ?_⟩
  rcases h3 with ⟨e1, e2, e3⟩ | ⟨e1, e2, e3, e4, e5, e6, e7⟩
  · refine .inl ⟨e1, e2, fun z hz => ?_⟩
    rcases Int.lt_or_le y z with g | g
    · exact e3 z g
    · obtain rfl : z = y := by omega
      exact hd
  · refine .inr ⟨by omega, e2, e3, e4, e5, fun z hz hz' => ?_, e7⟩
    rcases Int.lt_or_le y z with g | g
    · exact e6 z g hz'
    · obtain rfl : z = y := by omega
      exact hd
theorem StUp.yes {D : Int → Bool} {H y a b : Int} (h : StUp D H y a b) (hd : D y = true) (hy : 0 ≤ y) : StUp D H (y - 1) y (if b < 0 then y else b) := by
  obtain ⟨h1, h2, h3⟩ := h
  refine ⟨by omega, by omega, .inr ?_⟩
  rcases h3 with ⟨e1, e2, e3⟩ | ⟨e1, e2, e3, e4, e5, e6, e7⟩
  · rw [if_pos (by omega)]
    exact ⟨by omega, by omega, h2, hd, hd, fun z _ _ => by omega, e3⟩
  · rw [if_neg (by omega)]
    exact ⟨by omega, by omega, e3, hd, e5, fun z _ _ => by omega, e7⟩
theorem StUp.none {D : Int → Bool} {H a b : Int} (h : StUp D H (-1) a b) (ha : a < 0) (h0 : ∀ y, y < 0 → D y = false) : ∀ y, D y = false := by
  obtain ⟨h1, h2, h3⟩ := h
  rcases h3 with ⟨e1, e2, e3⟩ | ⟨e1, e2, e3, e4, e5, e6, e7⟩
  · intro y
    rcases Int.lt_or_le y 0 with g | g
    · exact h0 y g
    · exact e3 y (by omega)
  · omega
theorem StUp.some {D : Int → Bool} {H a b : Int} (h : StUp D H (-1) a b) (ha : ¬ a < 0) (h0 : ∀ y, y < 0 → D y = false) : 0 ≤ a ∧ a ≤ b ∧ b < H ∧ D a = true ∧ (∀ y, y < a → D y = false) ∧ D b = true ∧ (∀ y, b < y → D y = false) := by
  obtain ⟨h1, h2, h3⟩ := h
  rcases h3 with ⟨e1, e2, e3⟩ | ⟨e1, e2, e3, e4, e5, e6, e7⟩
  · omega
  · refine ⟨by omega, e2, e3, e4, fun y hy => ?_, e5, e7⟩
    rcases Int.lt_or_le y 0 with g | g
    · exact h0 y g
    · exact e6 y (by omega) hy

set_option maxHeartbeats 2000000 in
theorem stretch_any (W H x : Int) (pv : Value) (px : List Int) (w : World) (h : ImgOk w W H pv px) :
    Calls Tryz.prog 57 #[.agg #[.int .i64 W, .int .i64 H, pv], .int .i64 x] w
      (RetEx (StretchIs (darkB W H px x)) (fun r => .agg #[.int .i64 r.1, .int .i64 r.2.1, .int .i64 r.2.2.1, .int .i64 r.2.2.2]) w) := by
  have h1 := h.h1
  have h2 := h.h2
  go_enter Tryz.func57, Tryz.ntmps57
  go_wp2_with fail
  generalize hW0 : World.alloc (World.alloc w _) _ = W0
  have s0 : W0.heap.size = w.heap.size + 2 := by rw [← hW0]; simp
  have K0 : Blk W0 w.heap.size #[.int .i64 W, .int .i64 H, pv] 24 := by rw [← hW0]; exact (Blk.new _ _ _).alloc _
  have R0 : Blk W0 (w.heap.size + 1) #[.int .i64 0, .int .i64 0, .int .i64 0, .int .i64 0] 94 := by rw [← hW0]; exact Blk.newAt _ _ (by simp)
  have hB0 : Below w.heap.size w W0 := by rw [← hW0]; exact (by repeat (first | (with_reducible exact Below.refl _ _) | (with_reducible assumption) | ((with_reducible refine Below.setCell ?_ ?_ _); rotate_left; (focus (first | omega | (simp; done) | (simp; omega)))) | (with_reducible refine Below.drew ?_) | (with_reducible refine below_drewN ?_ _) | ((with_reducible refine Below.alloc ?_ ?_ _); rotate_left; (focus (first | omega | (simp; done) | (simp; omega))))))
  clear hW0
  have hI := h.below hB0
  clear h
  have hneg : ∀ y, y < 0 → darkB W H px x y = false := fun y hy => darkB_out (by omega)
  have HNEG := Lib.hid hneg
  clear hneg
  go_loopw [7, 5, 6] (fun y a b wr => ∃ y' a' b' : Int, y = .int .i64 y' ∧ a = .int .i64 a' ∧ b = .int .i64 b' ∧ StUp (darkB W H px x) H y' a' b' ∧ Below W0.heap.size W0 wr) (fun y _ _ _ => (intOf y + 1).toNat)
  case atStart => exact ⟨_, _, _, rfl, rfl, rfl, ⟨by omega, by omega, .inl ⟨rfl, rfl, fun z hz => darkB_out (by omega)⟩⟩, Below.refl _ _⟩
  case round =>
    obtain ⟨y, a, b, rfl, rfl, rfl, hst, hb⟩ := hrel
    have K := K0.keep hb (by omega)
    obtain ⟨k0, k1, k2, kf⟩ := K.c3
    have hI' := hI.below hb
    have hy1 := hst.1
    have hy2 := hst.2.1
    have HB := hb.size
    by_cases hy : 0 ≤ y
    · cases hd : darkB W H px x y
      · have hst' := StUp.no hst hd hy
        clear hst
        go_wp2_with (go_at_call 61; refine (dark_is hd hI').mono ?_; rintro e w' ⟨rfl, hb'⟩)
        go_roundw
        case rel => exact ⟨_, _, _, rfl, rfl, rfl, hst', hb.trans (hb'.mono HB)⟩
        case measure => simp [intOf]; omega
      · have hst' := StUp.yes hst hd hy
        clear hst
        by_cases hbn : b < 0
        all_goals
          first | rw [if_pos hbn] at hst' | rw [if_neg hbn] at hst'
          go_wp2_with (go_at_call 61; refine (dark_is hd hI').mono ?_; rintro e w' ⟨rfl, hb'⟩)
          go_roundw
          case rel => exact ⟨_, _, _, rfl, rfl, rfl, hst', hb.trans (hb'.mono HB)⟩
          case measure => simp [intOf]; omega
    · obtain rfl : y = -1 := by omega
      have R := R0.keep hb (by omega)
      obtain ⟨r0, r1, r2, r3, hfz⟩ := R.c4
      have hBw := binto hB0 hb
      by_cases ha : a < 0
      · have hno := StUp.none hst ha HNEG.out
        have HNO := Lib.hid hno
        clear hst hno
        go_wp2_with fail
        exact bodyPost_ret (v := .agg #[.int .i64 (-1), .int .i64 (-1), .int .i64 0, .int .i64 0]) (by simp [results, Tryz.results57, go_sem, r0, r1, r2, r3, hfz]) rfl ⟨(-1, -1, 0, 0), .inl ⟨HNO.out, rfl⟩, rfl, (by repeat (first | (with_reducible exact Below.refl _ _) | (with_reducible assumption) | ((with_reducible refine Below.setCell ?_ ?_ _); rotate_left; (focus (first | omega | (simp; done) | (simp; omega)))) | (with_reducible refine Below.drew ?_) | (with_reducible refine below_drewN ?_ _) | ((with_reducible refine Below.alloc ?_ ?_ _); rotate_left; (focus (first | omega | (simp; done) | (simp; omega))))))⟩
      · obtain ⟨q1, q2, q3, q4, q5, q6, q7⟩ := StUp.some hst ha HNEG.out
        have Q4 := Lib.hid q4
        have Q5 := Lib.hid q5
        have Q6 := Lib.hid q6
        have Q7 := Lib.hid q7
        clear hst q4 q5 q6 q7
        go_wp2_with fail
        clear r0 r1 r2 r3 hfz kf
        obtain ⟨wa, rfl⟩ : ∃ wo : World, wo = wr := ⟨_, rfl⟩
        have HR := Lib.hid R; clear R
        have HK := Lib.hid K; clear K
        go_loopw [8] (fun u wr' => ∃ u' : Int, u = .int .i64 u' ∧ 0 ≤ u' ∧ a + u' ≤ H ∧ Hid (∀ y, a ≤ y → y < a + u' → darkB W H px x y = true) ∧ Below wa.heap.size wa wr') (fun u _ => (H - a - intOf u).toNat)
        case atStart => exact ⟨0, rfl, by omega, by omega, fun y _ _ => by omega, Below.refl _ _⟩
        case round =>
          obtain ⟨u, rfl, hu0, hu1, huD, hbu⟩ := hrel
          obtain ⟨wq, rfl⟩ : ∃ wo : World, wo = wr := ⟨_, rfl⟩
          have sq := hbu.size
          have K := HK.out.keep hbu (by omega)
          clear k0 k1 k2
          obtain ⟨k0, k1, k2, kf⟩ := K.c3
          have hIq := hI'.below hbu
          cases hd : darkB W H px x (a + u)
          · go_wp2_with (go_at_call 61; refine (dark_is hd hIq).mono ?_; rintro e w' ⟨rfl, hb'⟩)
            have hb2 : Below wa.heap.size wa w' := hbu.trans (hb'.mono sq)
            have HD1 := Lib.hid hd
            clear hd k0 k1 k2 kf K hIq hb' hbu
            go_loopw [9] (fun v wr' => ∃ v' : Int, v = .int .i64 v' ∧ 0 ≤ v' ∧ -1 ≤ b - v' ∧ Hid (∀ y, b - v' < y → y ≤ b → darkB W H px x y = true) ∧ Below wa.heap.size wa wr') (fun v _ => (b + 1 - intOf v).toNat)
            case atStart => exact ⟨0, rfl, by omega, by omega, fun y _ _ => by omega, hb2⟩
            case round =>
              obtain ⟨v, rfl, hv0, hv1, hvD, hbv⟩ := hrel
              have sz := hbv.size
              have K := HK.out.keep hbv (by omega)
              obtain ⟨k0, k1, k2, kf⟩ := K.c3
              have hIq := hI'.below hbv
              cases hd : darkB W H px x (b - v)
              · go_wp2_with fail
                refine (dark_is hd hIq).mono ?_
                rintro e w2 ⟨rfl, hb'⟩
                have hb3 : Below wa.heap.size wa w2 := hbv.trans (hb'.mono sz)
                have HD2 := Lib.hid hd
                obtain ⟨r0, r1, r2, r3, hfz⟩ := (HR.out.keep hb3 (by omega)).c4
                have hBz : Below w.heap.size w w2 := binto hBw hb3
                clear hd k0 k1 k2 kf K hIq hb' hbv hb3
                go_wp2_with fail
                exact bodyPost_ret (v := .agg #[.int .i64 a, .int .i64 b, .int .i64 u, .int .i64 v]) (by simp [results, Tryz.results57, go_sem, r0, r1, r2, r3, hfz]) rfl ⟨(a, b, u, v), .inr ⟨Q4.out, Q5.out, Q6.out, Q7.out, hu0, huD.out, HD1.out, hv0, hvD.out, HD2.out⟩, rfl, (by repeat (first | (with_reducible exact Below.refl _ _) | (with_reducible assumption) | ((with_reducible refine Below.setCell ?_ ?_ _); rotate_left; (focus (first | omega | (simp; done) | (simp; omega)))) | (with_reducible refine Below.drew ?_) | (with_reducible refine below_drewN ?_ _) | ((with_reducible refine Below.alloc ?_ ?_ _); rotate_left; (focus (first | omega | (simp; done) | (simp; omega))))))⟩
              · have hv2 : 0 ≤ b - v := by
                  rcases Int.lt_or_le (b - v) 0 with g | g
                  · rw [darkB_out (by omega)] at hd; cases hd
                  · exact g
                have hext : Hid (∀ y, b - (v + 1) < y → y ≤ b → darkB W H px x y = true) := fun y g1 g2 => by
                  rcases Int.lt_or_le (b - v) y with g | g
                  · exact hvD y g g2
                  · obtain rfl : y = b - v := by omega
                    exact hd
                go_wp2_with (go_at_call 61; refine (dark_is hd hIq).mono ?_; rintro e w2 ⟨rfl, hb'⟩)
                go_roundw
                case rel => exact ⟨_, rfl, by omega, by omega, hext, hbv.trans (hb'.mono sz)⟩
                case measure => simp [intOf]; omega
          · have hu2 : a + u < H := by
              rcases Int.lt_or_le (a + u) H with g | g
              · exact g
              · rw [darkB_out (by omega)] at hd; cases hd
            have hext : Hid (∀ y, a ≤ y → y < a + (u + 1) → darkB W H px x y = true) := fun y g1 g2 => by
              rcases Int.lt_or_le y (a + u) with g | g
              · exact huD y g1 g
              · obtain rfl : y = a + u := by omega
                exact hd
            go_wp2_with (go_at_call 61; refine (dark_is hd hIq).mono ?_; rintro e w' ⟨rfl, hb'⟩)
            go_roundw
            case rel => exact ⟨_, rfl, by omega, by omega, hext, hbu.trans (hb'.mono sq)⟩
            case measure => simp [intOf]; omega

end Go.Proofs.YtnfgedbcfclnmaaGreat
