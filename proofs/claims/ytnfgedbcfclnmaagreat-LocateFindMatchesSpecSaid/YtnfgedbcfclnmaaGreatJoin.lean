/- Slopes: the program's join, the reference's Tighter. -/
import Derived.Test.YtnfgedbcfclnmaaGreatLeaf
import Derived.Deep.RegionHeld3
import Derived.Deep.DeepCutAuto
set_option linter.unusedVariables false
set_option linter.unusedSimpArgs false
namespace Go.Proofs.YtnfgedbcfclnmaaGreat
open Go.RowKit

/-- An interval of slopes: low, high as fractions; is it bounded? -/
structure Slo where
  la : Int
  lb : Int
  ha : Int
  hb : Int
  bd : Bool

def lessB (a b c d : Int) : Bool := decide (a * d < c * b)

/-- The interval with the condition that two points with dx = X2 - X1 > 0, dy = Y2 - Y1 give. -/
def Slo.add (s : Slo) (dy dx : Int) : Slo :=
  { la := if !s.bd || lessB s.la s.lb (dy - 1) dx then dy - 1 else s.la, lb := if !s.bd || lessB s.la s.lb (dy - 1) dx then dx else s.lb,
    ha := if !s.bd || lessB (dy + 1) dx s.ha s.hb then dy + 1 else s.ha, hb := if !s.bd || lessB (dy + 1) dx s.ha s.hb then dx else s.hb, bd := true }

def joinF (s : Slo) (p q : Int × Int) : Slo := if q.1 < p.1 then s.add (p.2 - q.2) (p.1 - q.1) else s.add (q.2 - p.2) (q.1 - p.1)

/-- Sizes that keep all products within an int. -/
def Slo.Ok (s : Slo) : Prop := -2000000001 ≤ s.la ∧ s.la ≤ 2000000001 ∧ 0 ≤ s.lb ∧ s.lb ≤ 20000 ∧ -2000000001 ≤ s.ha ∧ s.ha ≤ 2000000001 ∧ 0 ≤ s.hb ∧ s.hb ≤ 20000
def PtOk (p : Int × Int) : Prop := -10000 ≤ p.1 ∧ p.1 ≤ 10000 ∧ -1000000000 ≤ p.2 ∧ p.2 ≤ 1000000000

theorem Slo.add_ok {s : Slo} {dy dx : Int} (h : s.Ok) (h1 : -2000000000 ≤ dy ∧ dy ≤ 2000000000) (h2 : 0 ≤ dx ∧ dx ≤ 20000) : (s.add dy dx).Ok := by
  obtain ⟨a1, a2, a3, a4, a5, a6, a7, a8⟩ := h
  unfold Slo.add Slo.Ok
  dsimp only
  refine ⟨?_, ?_, ?_, ?_, ?_, ?_, ?_, ?_⟩ <;> split <;> omega
theorem joinF_ok {s : Slo} {p q : Int × Int} (h : s.Ok) (hp : PtOk p) (hq : PtOk q) : (joinF s p q).Ok := by
  obtain ⟨p1, p2, p3, p4⟩ := hp
  obtain ⟨q1, q2, q3, q4⟩ := hq
  unfold joinF
  split <;> exact Slo.add_ok h ⟨by omega, by omega⟩ ⟨by omega, by omega⟩

theorem prod_bd {a b : Int} (ha : -2000000001 ≤ a ∧ a ≤ 2000000001) (hb : 0 ≤ b ∧ b ≤ 20000) : -40000000020000 ≤ a * b ∧ a * b ≤ 40000000020000 := by
  have h1 := Int.mul_le_mul_of_nonneg_right ha.1 hb.1
  have h2 := Int.mul_le_mul_of_nonneg_right ha.2 hb.1
  omega

set_option maxHeartbeats 400000 in
theorem less_is {a b c d : Int} {t : Bool} (ht : lessB a b c d = t) (ha : -2000000001 ≤ a ∧ a ≤ 2000000001) (hb : 0 ≤ b ∧ b ≤ 20000) (hc : -2000000001 ≤ c ∧ c ≤ 2000000001) (hd : 0 ≤ d ∧ d ≤ 20000) (w : World) :
    Calls Tryz.prog 102 #[.agg #[.int .i64 a, .int .i64 b], .agg #[.int .i64 c, .int .i64 d]] w fun e w' => e = .returned (.bool t) ∧ Below w.heap.size w w' := by
  obtain ⟨g1, g2⟩ := prod_bd ha hd
  obtain ⟨g3, g4⟩ := prod_bd hc hb
  have HT := Lib.hid ht
  clear ht
  go_enter Tryz.func102, Tryz.ntmps102
  go_wp2
  go_ret
  exact ⟨ret_bool HT.out, (by repeat (first | (with_reducible exact Below.refl _ _) | (with_reducible assumption) | ((with_reducible refine Below.setCell ?_ ?_ _); rotate_left; (focus (first | omega | (simp; done) | (simp; omega)))) | (with_reducible refine Below.drew ?_) | (with_reducible refine below_drewN ?_ _) | ((with_reducible refine Below.alloc ?_ ?_ _); rotate_left; (focus (first | omega | (simp; done) | (simp; omega))))))⟩

/-- Behind the exchange of join: the left point, the right one. -/
structure JoinMid (w : World) (s : Slo) (lx ly rx ry : Int) (wx : World) : Prop where
  below : Below w.heap.size w wx
  s : Blk wx w.heap.size #[.int .i64 s.la, .int .i64 s.lb, .int .i64 s.ha, .int .i64 s.hb, .bool s.bd, .bool false] 113
  p : Blk wx (w.heap.size + 1) #[.int .i64 lx, .int .i64 ly] 109
  q : Blk wx (w.heap.size + 1 + 1) #[.int .i64 rx, .int .i64 ry] 109
  r : Blk wx (w.heap.size + 1 + 1 + 1) #[.int .i64 0, .int .i64 0, .int .i64 0, .int .i64 0, .bool false, .bool false] 113

theorem JoinMid.alloc {w wx : World} {s : Slo} {lx ly rx ry : Int} (h : JoinMid w s lx ly rx ry wx) (o : Obj) : JoinMid w s lx ly rx ry (wx.alloc o) :=
  ⟨h.below.alloc h.below.size _, h.s.alloc _, h.p.alloc _, h.q.alloc _, h.r.alloc _⟩
theorem JoinMid.drew {w wx : World} {s : Slo} {lx ly rx ry : Int} (h : JoinMid w s lx ly rx ry wx) : JoinMid w s lx ly rx ry wx.drew :=
  ⟨h.below.drew, h.s, h.p, h.q, h.r⟩

theorem JoinMid.keep {w wx w1 : World} {s : Slo} {lx ly rx ry : Int} (h : JoinMid w s lx ly rx ry wx) (hb : Below wx.heap.size wx w1) : JoinMid w s lx ly rx ry w1 :=
  ⟨binto h.below hb, h.s.keep hb h.s.lt, h.p.keep hb h.p.lt, h.q.keep hb h.q.lt, h.r.keep hb h.r.lt⟩
theorem JoinMid.low {w wx : World} {s : Slo} {lx ly rx ry : Int} (h : JoinMid w s lx ly rx ry wx) (x y : Int) :
    JoinMid w { s with la := x, lb := y } lx ly rx ry ((wx.setCell ⟨w.heap.size, 0, none⟩ (.int .i64 x)).setCell ⟨w.heap.size, 1, none⟩ (.int .i64 y)) :=
  ⟨(h.below.setCell (Nat.le_refl _) _).setCell (Nat.le_refl _) _, (h.s.set _).set _, (h.p.set_other (by simp) _).set_other (by simp) _, (h.q.set_other (by simp; omega) _).set_other (by simp; omega) _, (h.r.set_other (by simp; omega) _).set_other (by simp; omega) _⟩

set_option maxHeartbeats 4000000 in
theorem join_any (s : Slo) (p q : Int × Int) (w : World) (h : s.Ok) (hp : PtOk p) (hq : PtOk q) (hne : p.1 ≠ q.1) :
    Calls Tryz.prog 88 #[.agg #[.int .i64 s.la, .int .i64 s.lb, .int .i64 s.ha, .int .i64 s.hb, .bool s.bd, .bool false], .agg #[.int .i64 p.1, .int .i64 p.2], .agg #[.int .i64 q.1, .int .i64 q.2]] w
      fun e w' => e = .returned (.agg #[.int .i64 (joinF s p q).la, .int .i64 (joinF s p q).lb, .int .i64 (joinF s p q).ha, .int .i64 (joinF s p q).hb, .bool true, .bool false]) ∧ Below w.heap.size w w' := by
  obtain ⟨px, py⟩ := p
  obtain ⟨qx, qy⟩ := q
  obtain ⟨p1, p2, p3, p4⟩ := hp
  obtain ⟨q1, q2, q3, q4⟩ := hq
  obtain ⟨la, lb, ha, hb, bd⟩ := s
  obtain ⟨a1, a2, a3, a4, a5, a6, a7, a8⟩ := h
  dsimp only at *
  generalize hJ : joinF ⟨la, lb, ha, hb, bd⟩ (px, py) (qx, qy) = J
  have HJ := Lib.hid hJ
  clear hJ
  go_enter Tryz.func88, Tryz.ntmps88
  go_upto_if 13 with fail
  go_cut [] (fun wx => ∃ lx ly rx ry : Int, lx < rx ∧ rx - lx ≤ 20000 ∧ -2000000000 ≤ ry - ly ∧ ry - ly ≤ 2000000000 ∧ -10000 ≤ lx ∧ rx ≤ 10000 ∧ -1000000000 ≤ ly ∧ ly ≤ 1000000000 ∧ -1000000000 ≤ ry ∧ ry ≤ 1000000000 ∧ Hid (J = Slo.add ⟨la, lb, ha, hb, bd⟩ (ry - ly) (rx - lx)) ∧ JoinMid w ⟨la, lb, ha, hb, bd⟩ lx ly rx ry wx)
  case first =>
    go_wp2_with fail
    · go_meet
      refine ⟨qx, qy, px, py, by omega, by omega, by omega, by omega, by omega, by omega, by omega, by omega, by omega, by omega, ?_, (by repeat (first | (with_reducible exact Below.refl _ _) | (with_reducible assumption) | ((with_reducible refine Below.setCell ?_ ?_ _); rotate_left; (focus (first | omega | (simp; done) | (simp; omega)))) | (with_reducible refine Below.drew ?_) | (with_reducible refine below_drewN ?_ _) | ((with_reducible refine Below.alloc ?_ ?_ _); rotate_left; (focus (first | omega | (simp; done) | (simp; omega)))))), (((Blk.new _ _ _).alloc _).alloc _).alloc _, ((Blk.newAt _ _ (by simp)).alloc _).alloc _, (Blk.newAt _ _ (by simp)).alloc _, Blk.newAt _ _ (by simp)⟩
      show J = _
      rw [← HJ.out]; simp only [joinF]; rw [if_pos (by omega)]
    · go_meet
      refine ⟨px, py, qx, qy, by omega, by omega, by omega, by omega, by omega, by omega, by omega, by omega, by omega, by omega, ?_, (by repeat (first | (with_reducible exact Below.refl _ _) | (with_reducible assumption) | ((with_reducible refine Below.setCell ?_ ?_ _); rotate_left; (focus (first | omega | (simp; done) | (simp; omega)))) | (with_reducible refine Below.drew ?_) | (with_reducible refine below_drewN ?_ _) | ((with_reducible refine Below.alloc ?_ ?_ _); rotate_left; (focus (first | omega | (simp; done) | (simp; omega)))))), (((Blk.new _ _ _).alloc _).alloc _).alloc _, ((Blk.newAt _ _ (by simp)).alloc _).alloc _, (Blk.newAt _ _ (by simp)).alloc _, Blk.newAt _ _ (by simp)⟩
      show J = _
      rw [← HJ.out]; simp only [joinF]; rw [if_neg (by omega)]
  case rest =>
    clear HJ hne p1 p2 p3 p4 q1 q2 q3 q4
    obtain ⟨lx, ly, rx, ry, i1, i2, i3, i4, i5, i6, i7, i8, i9, i10, HJ2, M⟩ := hcut
    obtain ⟨x0, x1, -⟩ := M.p.c2
    obtain ⟨y0, y1, -⟩ := M.q.c2
    have hsz := M.r.lt
    have hxy : (lx == rx) = false := by
      rw [beq_eq_false_iff_ne]; omega
    have e1 : IntKind.i64.wrap (ry - ly) = ry - ly := IntWalk.i64_in _ (by omega)
    have e2 : IntKind.i64.wrap (rx - lx) = rx - lx := IntWalk.i64_in _ (by omega)
    have e3 : IntKind.i64.wrap (ry - ly - 1) = ry - ly - 1 := IntWalk.i64_in _ (by omega)
    have e4 : IntKind.i64.wrap (ry - ly + 1) = ry - ly + 1 := IntWalk.i64_in _ (by omega)
    go_upto_region 6 with fail
    go_cut [7, 8] (fun u7 u8 wx => ∃ b7 b8 : Nat, u7 = .pointer (some ⟨b7, 0, none⟩) ∧ u8 = .pointer (some ⟨b8, 0, none⟩) ∧ JoinMid w ⟨la, lb, ha, hb, bd⟩ lx ly rx ry wx ∧ w.heap.size + 1 + 1 + 1 < b7 ∧ w.heap.size + 1 + 1 + 1 < b8 ∧ Blk wx b7 #[.int .i64 (ry - ly - 1), .int .i64 (rx - lx)] 111 ∧ Blk wx b8 #[.int .i64 (ry - ly + 1), .int .i64 (rx - lx)] 111)
    case first =>
      go_region_held3 (fun w' => w'.cell? ⟨w.heap.size + 1, 0, none⟩ = some (.int .i64 lx) ∧ w'.cell? ⟨w.heap.size + 1, 1, none⟩ = some (.int .i64 ly) ∧ w'.cell? ⟨w.heap.size + 1 + 1, 0, none⟩ = some (.int .i64 rx) ∧ w'.cell? ⟨w.heap.size + 1 + 1, 1, none⟩ = some (.int .i64 ry))
        (first | go_keep) ((fail))
      all_goals go_wp2_with fail
      all_goals go_meet
      · exact ⟨wc.heap.size, wc.heap.size + 1, rfl, rfl, ((M.alloc _).alloc _).drew, by omega, by omega, ((Blk.new _ _ _).alloc _).drew, (Blk.newAt _ _ (by simp)).drew⟩
      · exact ⟨wc.heap.size + 1, wc.heap.size, rfl, rfl, ((M.alloc _).alloc _).drew, by omega, by omega, (Blk.newAt _ _ (by simp)).drew, ((Blk.new _ _ _).alloc _).drew⟩
    case rest =>
      clear x0 x1 y0 y1 M e1 e2 e3 e4
      clear hsz
      obtain ⟨b7, b8, rfl, rfl, M, hb7, hb8, L, U⟩ := hcut
      obtain ⟨l0, l1, lf⟩ := L.c2
      obtain ⟨u0, u1, uf⟩ := U.c2
      obtain ⟨k0, k1, k2, k3, k4, k5, kf⟩ := M.s.c6
      obtain ⟨r0, r1, r2, r3, r4, r5, rf⟩ := M.r.c6
      have hBM := M.below
      have n1 : ¬ b7 = w.heap.size := by omega
      have n2 : ¬ b8 = w.heap.size := by omega
      cases bd with
      | false =>
        have hfin : J = ⟨ry - ly - 1, rx - lx, ry - ly + 1, rx - lx, true⟩ := by rw [HJ2.out]; simp [Slo.add]
        have HF := Lib.hid hfin
        clear hfin HJ2
        go_wp2_with fail
        exact bodyPost_ret (v := .agg #[.int .i64 (ry - ly - 1), .int .i64 (rx - lx), .int .i64 (ry - ly + 1), .int .i64 (rx - lx), .bool true, .bool false]) (by simp [results, Tryz.results88, go_sem, r0, r1, r2, r3, r4, r5, rf]) rfl ⟨by rw [HF.out], (by repeat (first | (with_reducible exact Below.refl _ _) | (with_reducible assumption) | ((with_reducible refine Below.setCell ?_ ?_ _); rotate_left; (focus (first | omega | (simp; done) | (simp; omega)))) | (with_reducible refine Below.drew ?_) | (with_reducible refine below_drewN ?_ _) | ((with_reducible refine Below.alloc ?_ ?_ _); rotate_left; (focus (first | omega | (simp; done) | (simp; omega))))))⟩
      | true =>
        go_wp2_with fail
        cases t1 : lessB la lb (ry - ly - 1) (rx - lx)
        · refine (less_is t1 ⟨by omega, by omega⟩ ⟨by omega, by omega⟩ ⟨by omega, by omega⟩ ⟨by omega, by omega⟩ _).mono ?_
          rintro e w1 ⟨rfl, hb1⟩
          clear l0 l1 lf u0 u1 uf k0 k1 k2 k3 k4 k5 kf r0 r1 r2 r3 r4 r5 rf hBM
          have M1 := M.keep hb1
          have L1 := L.keep hb1 L.lt
          have U1 := U.keep hb1 U.lt
          clear M L U hb1
          have sz := U1.lt
          have sz' := L1.lt
          obtain ⟨l0, l1, lf⟩ := L1.c2
          obtain ⟨u0, u1, uf⟩ := U1.c2
          obtain ⟨k0, k1, k2, k3, k4, k5, kf⟩ := M1.s.c6
          go_wp2_with fail
          cases t2 : lessB (ry - ly + 1) (rx - lx) ha hb
          all_goals
            have hfin := HJ2.out
            simp only [Slo.add, t1, t2, Bool.not_true, Bool.or_true, Bool.or_false, Bool.false_eq_true, if_true, if_false] at hfin
            have HF := Lib.hid hfin
            clear hfin HJ2
            refine (less_is t2 ⟨by omega, by omega⟩ ⟨by omega, by omega⟩ ⟨by omega, by omega⟩ ⟨by omega, by omega⟩ _).mono ?_
            rintro e w2 ⟨rfl, hb2⟩
            clear l0 l1 lf u0 u1 uf k0 k1 k2 k3 k4 k5 kf
            have M2 := M1.keep hb2
            have U2 := U1.keep hb2 U1.lt
            have hBM := M2.below
            obtain ⟨u0, u1, uf⟩ := U2.c2
            obtain ⟨k0, k1, k2, k3, k4, k5, kf⟩ := M2.s.c6
            obtain ⟨r0, r1, r2, r3, r4, r5, rf⟩ := M2.r.c6
            clear M1 L1 U1 hb2
            go_wp2_with fail
          · exact bodyPost_ret (v := .agg #[.int .i64 la, .int .i64 lb, .int .i64 ha, .int .i64 hb, .bool true, .bool false]) (by simp [results, Tryz.results88, go_sem, r0, r1, r2, r3, r4, r5, rf]) rfl ⟨by rw [HF.out], (by repeat (first | (with_reducible exact Below.refl _ _) | (with_reducible assumption) | ((with_reducible refine Below.setCell ?_ ?_ _); rotate_left; (focus (first | omega | (simp; done) | (simp; omega)))) | (with_reducible refine Below.drew ?_) | (with_reducible refine below_drewN ?_ _) | ((with_reducible refine Below.alloc ?_ ?_ _); rotate_left; (focus (first | omega | (simp; done) | (simp; omega))))))⟩
          · exact bodyPost_ret (v := .agg #[.int .i64 la, .int .i64 lb, .int .i64 (ry - ly + 1), .int .i64 (rx - lx), .bool true, .bool false]) (by simp [results, Tryz.results88, go_sem, r0, r1, r2, r3, r4, r5, rf]) rfl ⟨by rw [HF.out], (by repeat (first | (with_reducible exact Below.refl _ _) | (with_reducible assumption) | ((with_reducible refine Below.setCell ?_ ?_ _); rotate_left; (focus (first | omega | (simp; done) | (simp; omega)))) | (with_reducible refine Below.drew ?_) | (with_reducible refine below_drewN ?_ _) | ((with_reducible refine Below.alloc ?_ ?_ _); rotate_left; (focus (first | omega | (simp; done) | (simp; omega))))))⟩
        · refine (less_is t1 ⟨by omega, by omega⟩ ⟨by omega, by omega⟩ ⟨by omega, by omega⟩ ⟨by omega, by omega⟩ _).mono ?_
          rintro e w1 ⟨rfl, hb1⟩
          clear l0 l1 lf u0 u1 uf k0 k1 k2 k3 k4 k5 kf r0 r1 r2 r3 r4 r5 rf hBM
          have M1 := M.keep hb1
          have L1 := L.keep hb1 L.lt
          have U1 := U.keep hb1 U.lt
          clear M L U hb1
          have sz := U1.lt
          have sz' := L1.lt
          obtain ⟨l0, l1, lf⟩ := L1.c2
          obtain ⟨u0, u1, uf⟩ := U1.c2
          obtain ⟨k0, k1, k2, k3, k4, k5, kf⟩ := M1.s.c6
          go_wp2_with fail
          have M1' := M1.low (ry - ly - 1) (rx - lx)
          have U1' := (U1.set_other (a := ⟨w.heap.size, 0, none⟩) (by simp; omega) (.int .i64 (ry - ly - 1))).set_other (a := ⟨w.heap.size, 1, none⟩) (by simp; omega) (.int .i64 (rx - lx))
          cases t2 : lessB (ry - ly + 1) (rx - lx) ha hb
          all_goals
            have hfin := HJ2.out
            simp only [Slo.add, t1, t2, Bool.not_true, Bool.or_true, Bool.or_false, Bool.false_eq_true, if_true, if_false] at hfin
            have HF := Lib.hid hfin
            clear hfin HJ2
            refine (less_is t2 ⟨by omega, by omega⟩ ⟨by omega, by omega⟩ ⟨by omega, by omega⟩ ⟨by omega, by omega⟩ _).mono ?_
            rintro e w2 ⟨rfl, hb2⟩
            clear l0 l1 lf u0 u1 uf k0 k1 k2 k3 k4 k5 kf
            have M2 := M1'.keep hb2
            have U2 := U1'.keep hb2 U1'.lt
            have hBM := M2.below
            obtain ⟨u0, u1, uf⟩ := U2.c2
            obtain ⟨k0, k1, k2, k3, k4, k5, kf⟩ := M2.s.c6
            obtain ⟨r0, r1, r2, r3, r4, r5, rf⟩ := M2.r.c6
            dsimp only at k0 k1 k2 k3 k4 k5
            clear M1 L1 U1 hb2 M1' U1'
            go_wp2_with fail
          · exact bodyPost_ret (v := .agg #[.int .i64 (ry - ly - 1), .int .i64 (rx - lx), .int .i64 ha, .int .i64 hb, .bool true, .bool false]) (by simp [results, Tryz.results88, go_sem, r0, r1, r2, r3, r4, r5, rf]) rfl ⟨by rw [HF.out], (by repeat (first | (with_reducible exact Below.refl _ _) | (with_reducible assumption) | ((with_reducible refine Below.setCell ?_ ?_ _); rotate_left; (focus (first | omega | (simp; done) | (simp; omega)))) | (with_reducible refine Below.drew ?_) | (with_reducible refine below_drewN ?_ _) | ((with_reducible refine Below.alloc ?_ ?_ _); rotate_left; (focus (first | omega | (simp; done) | (simp; omega))))))⟩
          · exact bodyPost_ret (v := .agg #[.int .i64 (ry - ly - 1), .int .i64 (rx - lx), .int .i64 (ry - ly + 1), .int .i64 (rx - lx), .bool true, .bool false]) (by simp [results, Tryz.results88, go_sem, r0, r1, r2, r3, r4, r5, rf]) rfl ⟨by rw [HF.out], (by repeat (first | (with_reducible exact Below.refl _ _) | (with_reducible assumption) | ((with_reducible refine Below.setCell ?_ ?_ _); rotate_left; (focus (first | omega | (simp; done) | (simp; omega)))) | (with_reducible refine Below.drew ?_) | (with_reducible refine below_drewN ?_ _) | ((with_reducible refine Below.alloc ?_ ?_ _); rotate_left; (focus (first | omega | (simp; done) | (simp; omega))))))⟩

end Go.Proofs.YtnfgedbcfclnmaaGreat
