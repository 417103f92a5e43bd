/- The runs of dark pixels of a column: the program's scan. -/
import Derived.Test.YtnfgedbcfclnmaaGreatStretch
set_option linter.unusedVariables false
set_option linter.unusedSimpArgs false
namespace Go.Proofs.YtnfgedbcfclnmaaGreat
open Go.RowKit

theorem darkB_in {W H : Int} {px : List Int} {x y n : Int} (hx : 0 ≤ x ∧ x < W) (hy : 0 ≤ y ∧ y < H) (hn : px.getD (y * W + x).toNat 0 = n) : darkB W H px x y = decide (n < 128) := by
  have h1 : inB x 0 (W - 1) = true := by simp [inB]; omega
  have h2 : inB y 0 (H - 1) = true := by simp [inB]; omega
  simp only [darkB, pixF, h1, h2, hn, Bool.and_self, if_true]

set_option maxHeartbeats 400000 in
theorem scanDark {W H x y : Int} {pv : Value} {px : List Int} {t : Bool} (ht : darkB W H px x y = t) {w : World} {bi bx : Nat} (h : ImgOk w W H pv px) (hx : 0 ≤ x ∧ x < W)
    (hy : -1 ≤ y ∧ y ≤ H) (K : Blk w bi #[.int .i64 W, .int .i64 H, pv] 24) (X : Blk w bx #[.int .i64 x] 3) :
    Calls Tryz.prog 67 #[.int .i64 y, .pointer (some ⟨bi, 0, none⟩), .pointer (some ⟨bx, 0, none⟩)] w fun e w' => e = .returned (.bool t) ∧ w = w' := by
  obtain ⟨h1, h2, h3, h4, hl, hby, hR⟩ := h
  obtain ⟨k0, k1, k2, -⟩ := K.c3
  obtain ⟨x0, -⟩ := X.c1
  clear K X
  by_cases h0 : 0 ≤ y
  · by_cases hH : y < H
    · obtain ⟨i0, i1⟩ := idx_lt hx.1 hx.2 h0 hH
      have hlen : (y * W + x).toNat < px.length := by omega
      have hWH : W * H ≤ 409600 := by
        have := Int.mul_le_mul h2 h4 (by omega) (by omega); omega
      have hyW : 0 ≤ y * W := Int.mul_nonneg (by omega) (by omega)
      obtain ⟨n, hn⟩ : ∃ n, px.getD (y * W + x).toNat 0 = n := ⟨_, rfl⟩
      rw [darkB_in hx ⟨h0, hH⟩ hn] at ht
      obtain ⟨b, off, cap, rfl, hlc, hcm, hb, hc⟩ := hR.some (by omega)
      have hcell := hc _ _ (getD_some (d := 0) hlen)
      rw [hn] at hcell
      have hli : decide (y * W + x < (px.length : Int)) = true := by simp; omega
      clear hc hby hn hR
      have HL := Lib.hid hl; clear hl
      have HT := Lib.hid ht; clear ht
      go_enter Tryz.func67, Tryz.ntmps67
      go_wp2
      go_ret
      exact ⟨ret_bool HT.out, rfl⟩
    · rw [darkB_out (by omega)] at ht
      subst ht
      clear hl hby hR
      go_enter Tryz.func67, Tryz.ntmps67
      go_wp2
      go_ret
      exact ⟨rfl, rfl⟩
  · rw [darkB_out (by omega)] at ht
    subst ht
    clear hl hby hR
    go_enter Tryz.func67, Tryz.ntmps67
    go_wp2
    go_ret
    exact ⟨rfl, rfl⟩

/-- The state of the first loop of scan: rows 0 .. y-1 have been looked at. -/
def StDown (D : Int → Bool) (H y a b : Int) : Prop :=
  0 ≤ y ∧ y ≤ H ∧ ((a = -1 ∧ b = 0 ∧ ∀ z, z < y → D z = false) ∨ (0 ≤ a ∧ a ≤ b ∧ b < y ∧ D a = true ∧ D b = true ∧ (∀ z, z < a → D z = false) ∧ ∀ z, b < z → z < y → D z = false))

theorem StDown.no {D : Int → Bool} {H y a b : Int} (h : StDown D H y a b) (hd : D y = false) (hy : y < H) : StDown D H (y + 1) a b := by
  obtain ⟨h1, h2, h3⟩ := h
  refine ⟨by omega, by omega, ?_⟩
  rcases h3 with ⟨e1, e2, e3⟩ | ⟨e0, e1, e2, e3, e4, e5, e6⟩
  · refine .inl ⟨e1, e2, fun z hz => ?_⟩
    rcases Int.lt_or_le z y with g | g
    · exact e3 z g
    · obtain rfl : z = y := by omega
      exact hd
  · refine .inr ⟨e0, e1, by omega, e3, e4, e5, fun z hz hz' => ?_⟩
    rcases Int.lt_or_le z y with g | g
    · exact e6 z hz g
    · obtain rfl : z = y := by omega
      exact hd
theorem StDown.yes {D : Int → Bool} {H y a b : Int} (h : StDown D H y a b) (hd : D y = true) (hy : y < H) : StDown D H (y + 1) (if a = -1 then y else a) y := by
  obtain ⟨h1, h2, h3⟩ := h
  refine ⟨by omega, by omega, .inr ?_⟩
  rcases h3 with ⟨e1, e2, e3⟩ | ⟨e0, e1, e2, e3, e4, e5, e6⟩
  · rw [if_pos e1]
    exact ⟨h1, by omega, by omega, hd, hd, e3, fun z _ _ => by omega⟩
  · rw [if_neg (by omega)]
    exact ⟨e0, by omega, by omega, e3, hd, e5, fun z _ _ => by omega⟩

/-- What scan returns: Stretch's numbers, but 0 for the last row where there is none. -/
def scanOf (r : Int × Int × Int × Int) : Int × Int × Int × Int := if r.1 = -1 then (-1, 0, 0, 0) else r

/-- What lies in scan's own blocks all the while. -/
structure ScanEnv (w : World) (W H : Int) (pv : Value) (x : Int) (wr : World) : Prop where
  below : Below w.heap.size w wr
  img : Blk wr w.heap.size #[.int .i64 W, .int .i64 H, pv] 24
  x : Blk wr (w.heap.size + 1) #[.int .i64 x] 3
  res : Blk wr (w.heap.size + 1 + 1) #[.int .i64 0, .int .i64 0, .int .i64 0, .int .i64 0] 67
theorem ScanEnv.set {w wr : World} {W H x : Int} {pv : Value} (h : ScanEnv w W H pv x wr) {a : Addr} (ha : a.block = w.heap.size + 1 + 1 + 1) (v : Value) : ScanEnv w W H pv x (wr.setCell a v) :=
  ⟨h.below.setCell (by omega) _, h.img.set_other (by omega) _, h.x.set_other (by omega) _, h.res.set_other (by omega) _⟩

set_option maxHeartbeats 2000000 in
theorem scan_any (W H x : Int) (pv : Value) (px : List Int) (w : World) (h : ImgOk w W H pv px) (hx : 0 ≤ x ∧ x < W) :
    Calls Tryz.prog 34 #[.agg #[.int .i64 W, .int .i64 H, pv], .int .i64 x] w
      (RetEx (StretchIs (darkB W H px x)) (fun r => .agg #[.int .i64 (scanOf r).1, .int .i64 (scanOf r).2.1, .int .i64 (scanOf r).2.2.1, .int .i64 (scanOf r).2.2.2]) w) := by
  have h1 := h.h1
  have h2 := h.h2
  have hmf : ∀ (fn : Fn) (first cap : Array Value) (w : World), (Instr.makeFunc fn first cap).run Tryz.prog w = .ok (.func fn first cap) w := fun _ _ _ _ => rfl
  go_enter Tryz.func34, Tryz.ntmps34
  go_wp2_with fail
  generalize hW0 : World.alloc (World.alloc (World.alloc (World.alloc w _) _) _) _ = W0
  have s0 : W0.heap.size = w.heap.size + 1 + 1 + 1 + 1 := by rw [← hW0]; simp
  have K0 : Blk W0 w.heap.size #[.int .i64 W, .int .i64 H, pv] 24 := by rw [← hW0]; exact (((Blk.new _ _ _).alloc _).alloc _).alloc _
  have X0 : Blk W0 (w.heap.size + 1) #[.int .i64 x] 3 := by rw [← hW0]; exact ((Blk.newAt _ _ (by simp)).alloc _).alloc _
  have R0 : Blk W0 (w.heap.size + 1 + 1) #[.int .i64 0, .int .i64 0, .int .i64 0, .int .i64 0] 67 := by rw [← hW0]; exact (Blk.newAt _ _ (by simp)).alloc _
  have C0 : Blk W0 (w.heap.size + 1 + 1 + 1) #[.int .i64 (-1), .int .i64 0, .int .i64 0, .int .i64 0] 67 := by rw [← hW0]; exact Blk.newAt _ _ (by simp)
  have hB0 : Below w.heap.size w W0 := by rw [← hW0]; exact (by repeat (first | (with_reducible exact Below.refl _ _) | (with_reducible assumption) | ((with_reducible refine Below.setCell ?_ ?_ _); rotate_left; (focus (first | omega | (simp; done) | (simp; omega)))) | (with_reducible refine Below.drew ?_) | (with_reducible refine below_drewN ?_ _) | ((with_reducible refine Below.alloc ?_ ?_ _); rotate_left; (focus (first | omega | (simp; done) | (simp; omega))))))
  clear hW0
  have hneg : ∀ y, y < 0 → darkB W H px x y = false := fun y hy => darkB_out (by omega)
  have HNEG := Lib.hid hneg
  clear hneg
  go_loopw [12] (fun y wr => ∃ y' a b : Int, y = .int .i64 y' ∧ StDown (darkB W H px x) H y' a b ∧ ScanEnv w W H pv x wr ∧ Blk wr (w.heap.size + 1 + 1 + 1) #[.int .i64 a, .int .i64 b, .int .i64 0, .int .i64 0] 67) (fun y _ => (H - intOf y).toNat)
  case atStart => exact ⟨0, -1, 0, rfl, ⟨by omega, by omega, .inl ⟨rfl, rfl, fun z hz => darkB_out (by omega)⟩⟩, ⟨hB0, K0, X0, R0⟩, C0⟩
  case round =>
    obtain ⟨y, a, b, rfl, hst, E, C⟩ := hrel
    obtain ⟨wa, rfl⟩ : ∃ wo : World, wo = wr := ⟨_, rfl⟩
    obtain ⟨k0, k1, k2, kf⟩ := E.img.c3
    obtain ⟨m0, m1, m2, m3, mf⟩ := C.c4
    have hI' := h.below E.below
    have hy1 := hst.1
    have hy2 := hst.2.1
    by_cases hy : y < H
    · cases hd : darkB W H px x y
      · have hst' := StDown.no hst hd hy
        clear hst
        go_wp2_with (go_at_call 67; refine (scanDark hd hI' hx ⟨by omega, by omega⟩ E.img E.x).mono ?_; rintro e w' ⟨rfl, rfl⟩)
        go_roundw
        case rel => exact ⟨_, _, _, rfl, hst', E, C⟩
        case measure => simp [intOf]; omega
      · have hst' := StDown.yes hst hd hy
        clear hst
        have hlt := C.lt
        by_cases ha : a = -1
        · rw [if_pos ha] at hst'
          subst ha
          go_wp2_with (go_at_call 67; refine (scanDark hd hI' hx ⟨by omega, by omega⟩ E.img E.x).mono ?_; rintro e w' ⟨rfl, rfl⟩)
          go_roundw
          case rel => exact ⟨_, _, _, rfl, hst', (E.set (by simp) _).set (by simp) _, by have := (C.set (o := 0) (.int .i64 y)).set (o := 1) (.int .i64 y); simpa using this⟩
          case measure => simp [intOf]; omega
        · rw [if_neg ha] at hst'
          have haB : (a == -1) = false := by simpa using ha
          clear ha
          go_wp2_with (go_at_call 67; refine (scanDark hd hI' hx ⟨by omega, by omega⟩ E.img E.x).mono ?_; rintro e w' ⟨rfl, rfl⟩)
          go_roundw
          case rel => exact ⟨_, _, _, rfl, hst', E.set (by simp) _, by have := C.set (o := 1) (.int .i64 y); simpa using this⟩
          case measure => simp [intOf]; omega
    · obtain rfl : y = H := by omega
      obtain ⟨r0, r1, r2, r3, rf⟩ := E.res.c4
      by_cases ha : a = -1
      · subst ha
        have hno : ∀ z, darkB W y px x z = false := by
          intro z
          rcases hst.2.2 with ⟨-, -, e⟩ | ⟨e, -⟩
          · rcases Int.lt_or_le z y with g | g
            · exact e z g
            · exact darkB_out (by omega)
          · omega
        have hb0 : b = 0 := by
          rcases hst.2.2 with ⟨-, e, -⟩ | ⟨e, -⟩
          · exact e
          · omega
        subst hb0
        have HNO := Lib.hid hno
        have HE := E.below
        clear hst hno
        go_wp2_with fail
        exact bodyPost_ret (v := .agg #[.int .i64 (-1), .int .i64 0, .int .i64 0, .int .i64 0]) (by simp [results, Tryz.results34, go_sem, r0, r1, r2, r3, rf]) rfl ⟨(-1, -1, 0, 0), .inl ⟨HNO.out, rfl⟩, rfl, (by repeat (first | (with_reducible exact Below.refl _ _) | (with_reducible assumption) | ((with_reducible refine Below.setCell ?_ ?_ _); rotate_left; (focus (first | omega | (simp; done) | (simp; omega)))) | (with_reducible refine Below.drew ?_) | (with_reducible refine below_drewN ?_ _) | ((with_reducible refine Below.alloc ?_ ?_ _); rotate_left; (focus (first | omega | (simp; done) | (simp; omega))))))⟩
      · have hq : 0 ≤ a ∧ a ≤ b ∧ b < y ∧ darkB W y px x a = true ∧ darkB W y px x b = true ∧ (∀ z, z < a → darkB W y px x z = false) ∧ ∀ z, b < z → darkB W y px x z = false := by
          rcases hst.2.2 with ⟨e, -⟩ | ⟨e0, e1, e2, e3, e4, e5, e6⟩
          · exact absurd e ha
          · refine ⟨e0, e1, e2, e3, e4, e5, fun z hz => ?_⟩
            rcases Int.lt_or_le z y with g | g
            · exact e6 z hz g
            · exact darkB_out (by omega)
        obtain ⟨q0, q1, q2, q3, q4, q5, q6⟩ := hq
        have Q3 := Lib.hid q3
        have Q4 := Lib.hid q4
        have Q5 := Lib.hid q5
        have Q6 := Lib.hid q6
        have haB : (a == -1) = false := by simpa using ha
        clear hst q3 q4 q5 q6
        go_wp2_with fail
        clear m0 m1 m2 m3 mf r0 r1 r2 r3 rf k0 k1 k2 kf
        go_loopw [] (fun wr => ∃ u : Int, 0 ≤ u ∧ a + u ≤ y ∧ Hid (∀ z, a ≤ z → z < a + u → darkB W y px x z = true) ∧ ScanEnv w W y pv x wr ∧ Blk wr (w.heap.size + 1 + 1 + 1) #[.int .i64 a, .int .i64 b, .int .i64 u, .int .i64 0] 67)
          (fun wr => (y - intOf ((wr.cell? ⟨w.heap.size + 1 + 1 + 1, 2, none⟩).getD undef)).toNat)
        case atStart => exact ⟨0, by omega, by omega, fun z _ _ => by omega, E, C⟩
        case round =>
          obtain ⟨u, hu0, hu1, huD, E', C'⟩ := hrel
          obtain ⟨wq, rfl⟩ : ∃ wo : World, wo = wr := ⟨_, rfl⟩
          clear hI'
          have hI' := h.below E'.below
          obtain ⟨m0, m1, m2, m3, mf⟩ := C'.c4
          cases hd : darkB W y px x (a + u)
          · go_wp2_with (go_at_call 67; refine (scanDark hd hI' hx ⟨by omega, by omega⟩ E'.img E'.x).mono ?_; rintro e w' ⟨rfl, rfl⟩)
            have HD1 := Lib.hid hd
            clear hd m0 m1 m2 m3 mf hI'
            go_loopw [] (fun wr => ∃ v : Int, 0 ≤ v ∧ -1 ≤ b - v ∧ Hid (∀ z, b - v < z → z ≤ b → darkB W y px x z = true) ∧ ScanEnv w W y pv x wr ∧ Blk wr (w.heap.size + 1 + 1 + 1) #[.int .i64 a, .int .i64 b, .int .i64 u, .int .i64 v] 67)
              (fun wr => (y + 1 - intOf ((wr.cell? ⟨w.heap.size + 1 + 1 + 1, 3, none⟩).getD undef)).toNat)
            case atStart => exact ⟨0, by omega, by omega, fun z _ _ => by omega, E', C'⟩
            case round =>
              obtain ⟨v, hv0, hv1, hvD, E2, C2⟩ := hrel
              obtain ⟨wz, rfl⟩ : ∃ wo : World, wo = wr := ⟨_, rfl⟩
              have hI' := h.below E2.below
              obtain ⟨m0, m1, m2, m3, mf⟩ := C2.c4
              cases hd : darkB W y px x (b - v)
              · obtain ⟨r0, r1, r2, r3, rf⟩ := E2.res.c4
                go_wp2_with fail
                refine (scanDark hd hI' hx ⟨by omega, by omega⟩ E2.img E2.x).mono ?_
                rintro e w' ⟨rfl, rfl⟩
                have HD2 := Lib.hid hd
                have HE := E2.below
                have hso : scanOf (a, b, u, v) = (a, b, u, v) := by simp [scanOf, ha]
                have HSO := Lib.hid hso
                clear hd hso
                go_wp2_with fail
                exact bodyPost_ret (v := .agg #[.int .i64 a, .int .i64 b, .int .i64 u, .int .i64 v]) (by simp [results, Tryz.results34, go_sem, r0, r1, r2, r3, rf]) rfl ⟨(a, b, u, v), .inr ⟨Q3.out, Q5.out, Q4.out, Q6.out, hu0, huD.out, HD1.out, hv0, hvD.out, HD2.out⟩, by dsimp only; rw [HSO.out], (by repeat (first | (with_reducible exact Below.refl _ _) | (with_reducible assumption) | ((with_reducible refine Below.setCell ?_ ?_ _); rotate_left; (focus (first | omega | (simp; done) | (simp; omega)))) | (with_reducible refine Below.drew ?_) | (with_reducible refine below_drewN ?_ _) | ((with_reducible refine Below.alloc ?_ ?_ _); rotate_left; (focus (first | omega | (simp; done) | (simp; omega))))))⟩
              · have hv2 : 0 ≤ b - v := by
                  rcases Int.lt_or_le (b - v) 0 with g | g
                  · rw [darkB_out (by omega)] at hd; cases hd
                  · exact g
                have hext : Hid (∀ z, b - (v + 1) < z → z ≤ b → darkB W y px x z = true) := fun z g1 g2 => by
                  rcases Int.lt_or_le (b - v) z with g | g
                  · exact hvD z g g2
                  · obtain rfl : z = b - v := by omega
                    exact hd
                have hC3 := C2.set (o := 3) (.int .i64 (v + 1))
                have hc3 := (hC3.cell (o := 3) rfl : _ = some (Value.int .i64 (v + 1)))
                have hE3 := E2.set (a := ⟨w.heap.size + 1 + 1 + 1, 3, none⟩) rfl (.int .i64 (v + 1))
                have HC := Lib.hid hC3; have Hc := Lib.hid hc3; have HE := Lib.hid hE3
                have Hm := Lib.hid m3
                clear hC3 hc3 hE3
                go_wp2_with (go_at_call 67; refine (scanDark hd hI' hx ⟨by omega, by omega⟩ E2.img E2.x).mono ?_; rintro e w' ⟨rfl, rfl⟩)
                go_roundw
                case rel => exact ⟨_, by omega, by omega, hext, HE.out, HC.out⟩
                case measure => rw [Hc.out, Hm.out]; simp [intOf]; omega
          · have hu2 : a + u < y := by
              rcases Int.lt_or_le (a + u) y with g | g
              · exact g
              · rw [darkB_out (by omega)] at hd; cases hd
            have hext : Hid (∀ z, a ≤ z → z < a + (u + 1) → darkB W y px x z = true) := fun z g1 g2 => by
              rcases Int.lt_or_le z (a + u) with g | g
              · exact huD z g1 g
              · obtain rfl : z = a + u := by omega
                exact hd
            have hC3 := C'.set (o := 2) (.int .i64 (u + 1))
            have hc3 := (hC3.cell (o := 2) rfl : _ = some (Value.int .i64 (u + 1)))
            have hE3 := E'.set (a := ⟨w.heap.size + 1 + 1 + 1, 2, none⟩) rfl (.int .i64 (u + 1))
            have HC := Lib.hid hC3; have Hc := Lib.hid hc3; have HE := Lib.hid hE3
            have Hm := Lib.hid m2
            clear hC3 hc3 hE3
            go_wp2_with (go_at_call 67; refine (scanDark hd hI' hx ⟨by omega, by omega⟩ E'.img E'.x).mono ?_; rintro e w' ⟨rfl, rfl⟩)
            go_roundw
            case rel => exact ⟨_, by omega, by omega, hext, HE.out, HC.out⟩
            case measure => rw [Hc.out, Hm.out]; simp [intOf]; omega

end Go.Proofs.YtnfgedbcfclnmaaGreat
