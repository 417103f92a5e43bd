/- Slopes in the reference: Tighter, Some; the program's possible; rounding down. -/
import Derived.Test.YtnfgedbcfclnmaaGreatJoin
set_option linter.unusedVariables false
set_option linter.unusedSimpArgs false
namespace Go.Proofs.YtnfgedbcfclnmaaGreat
open Go.RowKit

/-- An interval as the reference has it: not bounded: the second numbers are 0. -/
def Slo.Nz (s : Slo) : Prop := (s.bd = true ∧ 0 < s.lb ∧ 0 < s.hb) ∨ (s.bd = false ∧ s.lb = 0 ∧ s.hb = 0)
theorem Slo.add_nz {s : Slo} {dy dx : Int} (h : s.Nz) (hx : 0 < dx) : (s.add dy dx).Nz := by
  left
  unfold Slo.add
  dsimp only
  rcases h with ⟨h1, h2, h3⟩ | ⟨h1, h2, h3⟩
  · rw [h1]
    refine ⟨rfl, ?_, ?_⟩ <;> split <;> omega
  · rw [h1]
    simp
    exact hx
theorem joinF_nz {s : Slo} {p q : Int × Int} (h : s.Nz) (hne : p.1 ≠ q.1) : (joinF s p q).Nz := by
  unfold joinF
  split <;> exact Slo.add_nz h (by omega)
def possF (s : Slo) : Bool := !s.bd || lessB s.la s.lb s.ha s.hb

set_option maxHeartbeats 800000 in
theorem possible_any (s : Slo) (w : World) (h : s.Ok) :
    Calls Tryz.prog 89 #[.agg #[.int .i64 s.la, .int .i64 s.lb, .int .i64 s.ha, .int .i64 s.hb, .bool s.bd, .bool false]] w fun e w' => e = .returned (.bool (possF s)) ∧ Below w.heap.size w w' := by
  obtain ⟨la, lb, ha, hb, bd⟩ := s
  obtain ⟨a1, a2, a3, a4, a5, a6, a7, a8⟩ := h
  dsimp only at *
  cases bd with
  | false =>
    go_enter Tryz.func89, Tryz.ntmps89
    go_wp2
    go_ret
    exact ⟨rfl, (by repeat (first | (with_reducible exact Below.refl _ _) | (with_reducible assumption) | ((with_reducible refine Below.setCell ?_ ?_ _); rotate_left; (focus (first | omega | (simp; done) | (simp; omega)))) | (with_reducible refine Below.drew ?_) | (with_reducible refine below_drewN ?_ _) | ((with_reducible refine Below.alloc ?_ ?_ _); rotate_left; (focus (first | omega | (simp; done) | (simp; omega))))))⟩
  | true =>
    obtain ⟨t, ht⟩ : ∃ t, lessB la lb ha hb = t := ⟨_, rfl⟩
    have hp : possF ⟨la, lb, ha, hb, true⟩ = t := by simp [possF, ht]
    rw [hp]
    clear hp
    go_enter Tryz.func89, Tryz.ntmps89
    go_wp2_with fail
    refine (less_is ht ⟨by omega, by omega⟩ ⟨by omega, by omega⟩ ⟨by omega, by omega⟩ ⟨by omega, by omega⟩ _).mono ?_
    rintro e w1 ⟨rfl, hb1⟩
    go_wp2_with fail
    go_ret
    exact ⟨rfl, binto (below_alloc _ _) hb1⟩

set_option maxHeartbeats 800000 in
theorem some_any (s : Slo) (w : World) (h : s.Ok) (hz : s.Nz) :
    Calls Tryz.prog 99 #[.agg #[.int .i64 s.la, .int .i64 s.lb, .int .i64 s.ha, .int .i64 s.hb, .bool false]] w fun e w' => e = .returned (.bool (possF s)) ∧ Below w.heap.size w w' := by
  obtain ⟨la, lb, ha, hb, bd⟩ := s
  obtain ⟨a1, a2, a3, a4, a5, a6, a7, a8⟩ := h
  dsimp only at *
  rcases hz with ⟨h1, h2, h3⟩ | ⟨h1, h2, h3⟩
  · dsimp only at h1 h2 h3
    subst h1
    have hp : possF ⟨la, lb, ha, hb, true⟩ = lessB la lb ha hb := by simp [possF]
    rw [hp]
    clear hp
    obtain ⟨g1, g2⟩ := prod_bd ⟨a1, a2⟩ ⟨a7, a8⟩
    obtain ⟨g3, g4⟩ := prod_bd ⟨a5, a6⟩ ⟨a3, a4⟩
    have hz1 : (lb == 0) = false := by rw [beq_eq_false_iff_ne]; omega
    go_enter Tryz.func99, Tryz.ntmps99
    go_wp2
    go_ret
    exact ⟨rfl, (by repeat (first | (with_reducible exact Below.refl _ _) | (with_reducible assumption) | ((with_reducible refine Below.setCell ?_ ?_ _); rotate_left; (focus (first | omega | (simp; done) | (simp; omega)))) | (with_reducible refine Below.drew ?_) | (with_reducible refine below_drewN ?_ _) | ((with_reducible refine Below.alloc ?_ ?_ _); rotate_left; (focus (first | omega | (simp; done) | (simp; omega))))))⟩
  · dsimp only at h1 h2 h3
    subst h1 h2 h3
    go_enter Tryz.func99, Tryz.ntmps99
    go_wp2
    go_ret
    exact ⟨rfl, (by repeat (first | (with_reducible exact Below.refl _ _) | (with_reducible assumption) | ((with_reducible refine Below.setCell ?_ ?_ _); rotate_left; (focus (first | omega | (simp; done) | (simp; omega)))) | (with_reducible refine Below.drew ?_) | (with_reducible refine below_drewN ?_ _) | ((with_reducible refine Below.alloc ?_ ?_ _); rotate_left; (focus (first | omega | (simp; done) | (simp; omega))))))⟩

/-! ### rounding down -/
theorem tdiv_floor {a b : Int} (hb : 0 < b) : (if a.tmod b < 0 then a.tdiv b - 1 else a.tdiv b) = a / b := by
  have h1 := Int.mul_tdiv_add_tmod a b
  have h2 := Int.mul_ediv_add_emod a b
  have h3 := Int.emod_nonneg a (show b ≠ 0 by omega)
  have h4 := Int.emod_lt_of_pos a hb
  have h5 := Int.tmod_lt_of_pos a hb
  have h6 : -b < a.tmod b := by
    have := Int.lt_tmod_of_pos a hb; omega
  have key : ∀ q r q' r' : Int, b * q + r = a → b * q' + r' = a → 0 ≤ r → r < b → 0 ≤ r' → r' < b → q = q' := by
    intro q r q' r' e1 e2 k1 k2 k3 k4
    have e : b * (q - q') = r' - r := by rw [Int.mul_sub]; omega
    rcases Int.lt_trichotomy q q' with g | g | g
    · have := Int.mul_le_mul_of_nonneg_left (show q - q' ≤ -1 by omega) (show 0 ≤ b by omega); omega
    · exact g
    · have := Int.mul_le_mul_of_nonneg_left (show 1 ≤ q - q' by omega) (show 0 ≤ b by omega); omega
  split
  · exact key _ (a.tmod b + b) _ _ (by rw [Int.mul_sub]; omega) h2 (by omega) (by omega) h3 h4
  · exact key _ (a.tmod b) _ _ h1 h2 (by omega) h5 h3 h4

theorem tdiv_floor2 {a b : Int} (hb : 0 < b) : (if a < a.tdiv b * b then a.tdiv b - 1 else a.tdiv b) = a / b := by
  rw [← tdiv_floor hb]
  have h1 := Int.mul_tdiv_add_tmod a b
  have e : a.tdiv b * b = b * a.tdiv b := Int.mul_comm _ _
  by_cases h : a.tmod b < 0
  · rw [if_pos h, if_pos (by omega)]
  · rw [if_neg h, if_neg (by omega)]

theorem tdiv_bd {a b M : Int} (hb : 0 < b) (hM : 0 ≤ M) (h : -M ≤ a ∧ a ≤ M) : -M ≤ a.tdiv b ∧ a.tdiv b ≤ M := by
  have e : (a.tdiv b).natAbs ≤ a.natAbs := by
    rw [Int.natAbs_tdiv]; exact Nat.div_le_self _ _
  omega

set_option maxHeartbeats 400000 in
theorem floorP_any (a b : Int) (w : World) (ha : -1000000000000000 ≤ a ∧ a ≤ 1000000000000000) (hb : 0 < b) (hb2 : b ≤ 1000000000000) :
    Calls Tryz.prog 91 #[.int .i64 a, .int .i64 b] w fun e w' => e = .returned (.int .i64 (a / b)) ∧ w = w' := by
  have hq := tdiv_bd hb (by omega) ha
  obtain ⟨a1, a2⟩ := ha
  obtain ⟨q1, q2⟩ := hq
  have hfl := tdiv_floor (a := a) hb
  have hz : (b == 0) = false := by rw [beq_eq_false_iff_ne]; omega
  have hr : -1000000000000 ≤ a.tmod b ∧ a.tmod b ≤ 1000000000000 := by
    have h5 := Int.tmod_lt_of_pos a hb
    have := Int.lt_tmod_of_pos a hb; omega
  obtain ⟨r1, r2⟩ := hr
  by_cases h : a.tmod b < 0
  · rw [if_pos h] at hfl
    have HF := Lib.hid hfl; clear hfl
    go_enter Tryz.func91, Tryz.ntmps91
    go_wp2
    go_ret
    exact ⟨ret_int HF.out, rfl⟩
  · rw [if_neg h] at hfl
    have HF := Lib.hid hfl; clear hfl
    go_enter Tryz.func91, Tryz.ntmps91
    go_wp2
    go_ret
    exact ⟨ret_int HF.out, rfl⟩

set_option maxHeartbeats 400000 in
theorem floorR_any (a b : Int) (w : World) (ha : -1000000000000000 ≤ a ∧ a ≤ 1000000000000000) (hb : 0 < b) (hb2 : b ≤ 1000000000000) :
    Calls Tryz.prog 100 #[.int .i64 a, .int .i64 b] w fun e w' => e = .returned (.int .i64 (a / b)) ∧ w = w' := by
  have hq := tdiv_bd hb (by omega) ha
  have h1 := Int.mul_tdiv_add_tmod a b
  obtain ⟨a1, a2⟩ := ha
  obtain ⟨q1, q2⟩ := hq
  have hfl := tdiv_floor2 (a := a) hb
  have hz : (b == 0) = false := by rw [beq_eq_false_iff_ne]; omega
  have hr : -1000000000000 ≤ a.tmod b ∧ a.tmod b ≤ 1000000000000 := by
    have h5 := Int.tmod_lt_of_pos a hb
    have := Int.lt_tmod_of_pos a hb; omega
  obtain ⟨r1, r2⟩ := hr
  have hm : -2000000000000000 ≤ a.tdiv b * b ∧ a.tdiv b * b ≤ 2000000000000000 := by
    rw [Int.mul_comm]; omega
  obtain ⟨m1, m2⟩ := hm
  clear h1
  by_cases h : a < a.tdiv b * b
  · rw [if_pos h] at hfl
    have HF := Lib.hid hfl; clear hfl
    go_enter Tryz.func100, Tryz.ntmps100
    go_wp2
    go_ret
    exact ⟨ret_int HF.out, rfl⟩
  · rw [if_neg h] at hfl
    have HF := Lib.hid hfl; clear hfl
    go_enter Tryz.func100, Tryz.ntmps100
    go_wp2
    go_ret
    exact ⟨ret_int HF.out, rfl⟩

/-- Behind the exchange of Tighter. -/
structure TightMid (w : World) (s : Slo) (lx ly rx ry : Int) (wx : World) : Prop where
  below : Below w.heap.size w wx
  s : Blk wx w.heap.size #[.int .i64 s.la, .int .i64 s.lb, .int .i64 s.ha, .int .i64 s.hb, .bool false] 123
  p : Blk wx (w.heap.size + 1) #[.int .i64 lx, .int .i64 ly] 109
  q : Blk wx (w.heap.size + 1 + 1) #[.int .i64 rx, .int .i64 ry] 109
  r : Blk wx (w.heap.size + 1 + 1 + 1) #[.int .i64 0, .int .i64 0, .int .i64 0, .int .i64 0, .bool false] 123

set_option maxRecDepth 100000 in
set_option maxHeartbeats 4000000 in
theorem tighter_any (s : Slo) (p q : Int × Int) (w : World) (h : s.Ok) (hz : s.Nz) (hp : PtOk p) (hq : PtOk q) (hne : p.1 ≠ q.1) :
    Calls Tryz.prog 98 #[.agg #[.int .i64 s.la, .int .i64 s.lb, .int .i64 s.ha, .int .i64 s.hb, .bool false], .agg #[.int .i64 p.1, .int .i64 p.2], .agg #[.int .i64 q.1, .int .i64 q.2]] w
      fun e w' => e = .returned (.agg #[.int .i64 (joinF s p q).la, .int .i64 (joinF s p q).lb, .int .i64 (joinF s p q).ha, .int .i64 (joinF s p q).hb, .bool false]) ∧ Below w.heap.size w w' := by
  obtain ⟨px, py⟩ := p
  obtain ⟨qx, qy⟩ := q
  obtain ⟨p1, p2, p3, p4⟩ := hp
  obtain ⟨q1, q2, q3, q4⟩ := hq
  obtain ⟨la, lb, ha, hb, bd⟩ := s
  obtain ⟨a1, a2, a3, a4, a5, a6, a7, a8⟩ := h
  dsimp only at *
  generalize hJ : joinF ⟨la, lb, ha, hb, bd⟩ (px, py) (qx, qy) = J
  have HJ := Lib.hid hJ
  have HZ := Lib.hid hz
  have hne' : (px == qx) = false := by rw [beq_eq_false_iff_ne]; exact hne
  clear hJ hz
  go_enter Tryz.func98, Tryz.ntmps98
  go_upto_if 29 with fail
  go_cut [] (fun wx => ∃ lx ly rx ry : Int, lx < rx ∧ rx - lx ≤ 20000 ∧ -2000000000 ≤ ry - ly ∧ ry - ly ≤ 2000000000 ∧ -10000 ≤ lx ∧ rx ≤ 10000 ∧ -1000000000 ≤ ly ∧ ly ≤ 1000000000 ∧ -1000000000 ≤ ry ∧ ry ≤ 1000000000 ∧ Hid (J = Slo.add ⟨la, lb, ha, hb, bd⟩ (ry - ly) (rx - lx)) ∧ TightMid w ⟨la, lb, ha, hb, bd⟩ lx ly rx ry wx)
  case first =>
    go_wp2_with fail
    · go_meet
      refine ⟨qx, qy, px, py, by omega, by omega, by omega, by omega, by omega, by omega, by omega, by omega, by omega, by omega, ?_, (by repeat (first | (with_reducible exact Below.refl _ _) | (with_reducible assumption) | ((with_reducible refine Below.setCell ?_ ?_ _); rotate_left; (focus (first | omega | (simp; done) | (simp; omega)))) | (with_reducible refine Below.drew ?_) | (with_reducible refine below_drewN ?_ _) | ((with_reducible refine Below.alloc ?_ ?_ _); rotate_left; (focus (first | omega | (simp; done) | (simp; omega)))))), (((Blk.new _ _ _).alloc _).alloc _).alloc _, ((Blk.newAt _ _ (by simp)).alloc _).alloc _, (Blk.newAt _ _ (by simp)).alloc _, Blk.newAt _ _ (by simp)⟩
      show J = _
      rw [← HJ.out]; simp only [joinF]; rw [if_pos (by omega)]
    · go_meet
      refine ⟨px, py, qx, qy, by omega, by omega, by omega, by omega, by omega, by omega, by omega, by omega, by omega, by omega, ?_, (by repeat (first | (with_reducible exact Below.refl _ _) | (with_reducible assumption) | ((with_reducible refine Below.setCell ?_ ?_ _); rotate_left; (focus (first | omega | (simp; done) | (simp; omega)))) | (with_reducible refine Below.drew ?_) | (with_reducible refine below_drewN ?_ _) | ((with_reducible refine Below.alloc ?_ ?_ _); rotate_left; (focus (first | omega | (simp; done) | (simp; omega)))))), (((Blk.new _ _ _).alloc _).alloc _).alloc _, ((Blk.newAt _ _ (by simp)).alloc _).alloc _, (Blk.newAt _ _ (by simp)).alloc _, Blk.newAt _ _ (by simp)⟩
      show J = _
      rw [← HJ.out]; simp only [joinF]; rw [if_neg (by omega)]
  case rest =>
    clear HJ hne p1 p2 p3 p4 q1 q2 q3 q4 hne'
    obtain ⟨lx, ly, rx, ry, i1, i2, i3, i4, i5, i6, i7, i8, i9, i10, HJ2, M⟩ := hcut
    obtain ⟨x0, x1, -⟩ := M.p.c2
    obtain ⟨y0, y1, -⟩ := M.q.c2
    have hsz := M.r.lt
    have e1 : IntKind.i64.wrap (ry - ly) = ry - ly := IntWalk.i64_in _ (by omega)
    have e2 : IntKind.i64.wrap (rx - lx) = rx - lx := IntWalk.i64_in _ (by omega)
    go_wp2_with fail
    go_quiet (fail)
    have M' : TightMid w ⟨la, lb, ha, hb, bd⟩ lx ly rx ry (wc.drewN nq) := ⟨below_drewN M.below _, M.s, M.p, M.q, M.r⟩
    clear e1 e2 x0 x1 y0 y1 M
    generalize wc.drewN nq = wd at *
    obtain ⟨k0, k1, k2, k3, k4, kf⟩ := M'.s.c5
    obtain ⟨r0, r1, r2, r3, r4, rf⟩ := M'.r.c5
    have hBM := M'.below
    rcases HZ.out with ⟨z1, z2, z3⟩ | ⟨z1, z2, z3⟩
    · dsimp only at z1 z2 z3
      subst z1
      have hz1 : (lb == 0) = false := by rw [beq_eq_false_iff_ne]; omega
      have hz2 : (hb == 0) = false := by rw [beq_eq_false_iff_ne]; omega
      obtain ⟨g1, g2⟩ := prod_bd ⟨a1, a2⟩ (show 0 ≤ rx - lx ∧ rx - lx ≤ 20000 by omega)
      obtain ⟨g3, g4⟩ := prod_bd (show -2000000001 ≤ ry - ly - 1 ∧ ry - ly - 1 ≤ 2000000001 by omega) ⟨a3, a4⟩
      obtain ⟨g5, g6⟩ := prod_bd ⟨a5, a6⟩ (show 0 ≤ rx - lx ∧ rx - lx ≤ 20000 by omega)
      obtain ⟨g7, g8⟩ := prod_bd (show -2000000001 ≤ ry - ly + 1 ∧ ry - ly + 1 ≤ 2000000001 by omega) ⟨a7, a8⟩
      clear z2 z3 HZ
      by_cases t1 : la * (rx - lx) < (ry - ly - 1) * lb <;> by_cases t2 : (ry - ly + 1) * hb < ha * (rx - lx)
      all_goals
        have hfin := HJ2.out
        simp only [Slo.add, lessB, t1, t2, decide_true, decide_false, Bool.not_true, Bool.or_true, Bool.or_false, Bool.false_eq_true, if_true, if_false] at hfin
        have HF := Lib.hid hfin
        clear hfin HJ2
        go_wp2_with fail
      · exact bodyPost_ret (v := .agg #[.int .i64 (ry - ly - 1), .int .i64 (rx - lx), .int .i64 (ry - ly + 1), .int .i64 (rx - lx), .bool false]) (by simp [results, Tryz.results98, go_sem, r0, r1, r2, r3, r4, rf]) rfl ⟨by rw [HF.out], (by repeat (first | (with_reducible exact Below.refl _ _) | (with_reducible assumption) | ((with_reducible refine Below.setCell ?_ ?_ _); rotate_left; (focus (first | omega | (simp; done) | (simp; omega)))) | (with_reducible refine Below.drew ?_) | (with_reducible refine below_drewN ?_ _) | ((with_reducible refine Below.alloc ?_ ?_ _); rotate_left; (focus (first | omega | (simp; done) | (simp; omega))))))⟩
      · exact bodyPost_ret (v := .agg #[.int .i64 (ry - ly - 1), .int .i64 (rx - lx), .int .i64 ha, .int .i64 hb, .bool false]) (by simp [results, Tryz.results98, go_sem, r0, r1, r2, r3, r4, rf]) rfl ⟨by rw [HF.out], (by repeat (first | (with_reducible exact Below.refl _ _) | (with_reducible assumption) | ((with_reducible refine Below.setCell ?_ ?_ _); rotate_left; (focus (first | omega | (simp; done) | (simp; omega)))) | (with_reducible refine Below.drew ?_) | (with_reducible refine below_drewN ?_ _) | ((with_reducible refine Below.alloc ?_ ?_ _); rotate_left; (focus (first | omega | (simp; done) | (simp; omega))))))⟩
      · exact bodyPost_ret (v := .agg #[.int .i64 la, .int .i64 lb, .int .i64 (ry - ly + 1), .int .i64 (rx - lx), .bool false]) (by simp [results, Tryz.results98, go_sem, r0, r1, r2, r3, r4, rf]) rfl ⟨by rw [HF.out], (by repeat (first | (with_reducible exact Below.refl _ _) | (with_reducible assumption) | ((with_reducible refine Below.setCell ?_ ?_ _); rotate_left; (focus (first | omega | (simp; done) | (simp; omega)))) | (with_reducible refine Below.drew ?_) | (with_reducible refine below_drewN ?_ _) | ((with_reducible refine Below.alloc ?_ ?_ _); rotate_left; (focus (first | omega | (simp; done) | (simp; omega))))))⟩
      · exact bodyPost_ret (v := .agg #[.int .i64 la, .int .i64 lb, .int .i64 ha, .int .i64 hb, .bool false]) (by simp [results, Tryz.results98, go_sem, r0, r1, r2, r3, r4, rf]) rfl ⟨by rw [HF.out], (by repeat (first | (with_reducible exact Below.refl _ _) | (with_reducible assumption) | ((with_reducible refine Below.setCell ?_ ?_ _); rotate_left; (focus (first | omega | (simp; done) | (simp; omega)))) | (with_reducible refine Below.drew ?_) | (with_reducible refine below_drewN ?_ _) | ((with_reducible refine Below.alloc ?_ ?_ _); rotate_left; (focus (first | omega | (simp; done) | (simp; omega))))))⟩
    · dsimp only at z1 z2 z3
      subst z1 z2 z3
      have hfin : J = ⟨ry - ly - 1, rx - lx, ry - ly + 1, rx - lx, true⟩ := by rw [HJ2.out]; simp [Slo.add]
      have HF := Lib.hid hfin
      clear hfin HJ2 HZ
      go_wp2_with fail
      exact bodyPost_ret (v := .agg #[.int .i64 (ry - ly - 1), .int .i64 (rx - lx), .int .i64 (ry - ly + 1), .int .i64 (rx - lx), .bool false]) (by simp [results, Tryz.results98, go_sem, r0, r1, r2, r3, r4, rf]) rfl ⟨by rw [HF.out], (by repeat (first | (with_reducible exact Below.refl _ _) | (with_reducible assumption) | ((with_reducible refine Below.setCell ?_ ?_ _); rotate_left; (focus (first | omega | (simp; done) | (simp; omega)))) | (with_reducible refine Below.drew ?_) | (with_reducible refine below_drewN ?_ _) | ((with_reducible refine Below.alloc ?_ ?_ _); rotate_left; (focus (first | omega | (simp; done) | (simp; omega))))))⟩

end Go.Proofs.YtnfgedbcfclnmaaGreat
