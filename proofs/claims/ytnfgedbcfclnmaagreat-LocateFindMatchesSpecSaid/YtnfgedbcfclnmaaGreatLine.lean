/- The program's slope and line. -/
import Derived.Test.YtnfgedbcfclnmaaGreatSimple
set_option linter.unusedVariables false
set_option linter.unusedSimpArgs false
namespace Go.Proofs.YtnfgedbcfclnmaaGreat
open Go.RowKit

/-- A small interval that is not empty. -/
structure SloS (s : Slo) : Prop where
  bd : s.bd = true
  a0 : -10001 ≤ s.la
  a1 : s.la ≤ 10001
  b0 : 0 < s.lb
  b1 : s.lb ≤ 10000
  c0 : -10001 ≤ s.ha
  c1 : s.ha ≤ 10001
  d0 : 0 < s.hb
  d1 : s.hb ≤ 10000
  lt : s.la * s.hb < s.ha * s.lb

/-- A slope within it. -/
def SlopeP (s : Slo) (r : Int × Int) : Prop := 0 < r.2 ∧ r.2 ≤ 20000 ∧ -30000 ≤ r.1 ∧ r.1 ≤ 30000 ∧ s.la * r.2 < r.1 * s.lb ∧ r.1 * s.hb < s.ha * r.2

theorem slope_pos {s : Slo} (h : SloS s) (h0 : 0 ≤ s.la) : SimPre s.la s.lb s.ha s.hb ∧ ∀ r, SimP s.la s.lb s.ha s.hb r → SlopeP s r := by
  obtain ⟨bd, a0, a1, b0, b1, c0, c1, d0, d1, lt⟩ := h
  have hm := Int.mul_nonneg h0 (Int.le_of_lt d0)
  have hpos : 0 < s.ha := by
    rcases Int.lt_or_le 0 s.ha with g | g
    · exact g
    · have := Int.mul_le_mul_of_nonneg_right g (Int.le_of_lt b0); omega
  refine ⟨⟨h0, by omega, b0, by omega, hpos, by omega, d0, by omega, lt⟩, fun r hr => ?_⟩
  obtain ⟨k0, k1, k2, k3, k4, k5⟩ := hr
  exact ⟨k1, by omega, by omega, by omega, k4, k5⟩
theorem slope_neg {s : Slo} (h : SloS s) (h0 : s.la < 0) (h1 : s.ha ≤ 0) : SimPre (-s.ha) s.hb (-s.la) s.lb ∧ ∀ r, SimP (-s.ha) s.hb (-s.la) s.lb r → SlopeP s (-r.1, r.2) := by
  obtain ⟨bd, a0, a1, b0, b1, c0, c1, d0, d1, lt⟩ := h
  refine ⟨⟨by omega, by omega, d0, by omega, by omega, by omega, b0, by omega, by grind⟩, fun r hr => ?_⟩
  obtain ⟨k0, k1, k2, k3, k4, k5⟩ := hr
  exact ⟨k1, by dsimp only; omega, by dsimp only; omega, by dsimp only; omega, by dsimp only; grind, by dsimp only; grind⟩

/-- The blocks of a call of slope. -/
structure SlopeEnv (w : World) (s : Slo) (wx : World) : Prop where
  below : Below w.heap.size w wx
  s : Blk wx w.heap.size #[.int .i64 s.la, .int .i64 s.lb, .int .i64 s.ha, .int .i64 s.hb, .bool true, .bool false] 113
  r : Blk wx (w.heap.size + 1) #[.int .i64 0, .int .i64 0] 111
  z : Blk wx (w.heap.size + 1 + 1) #[.int .i64 0, .int .i64 1] 111
theorem SlopeEnv.keep {w wx w1 : World} {s : Slo} (h : SlopeEnv w s wx) (hb : Below wx.heap.size wx w1) : SlopeEnv w s w1 :=
  ⟨binto h.below hb, h.s.keep hb h.s.lt, h.r.keep hb h.r.lt, h.z.keep hb h.z.lt⟩
theorem SlopeEnv.facts {w wx : World} {s : Slo} (h : SlopeEnv w s wx) :
    (wx.cell? ⟨w.heap.size, 0, none⟩ = some (.int .i64 s.la) ∧ wx.cell? ⟨w.heap.size, 1, none⟩ = some (.int .i64 s.lb) ∧ wx.cell? ⟨w.heap.size, 2, none⟩ = some (.int .i64 s.ha) ∧ wx.cell? ⟨w.heap.size, 3, none⟩ = some (.int .i64 s.hb) ∧ wx.cell? ⟨w.heap.size, 4, none⟩ = some (.bool true)) ∧
    (wx.cell? ⟨w.heap.size + 1, 0, none⟩ = some (.int .i64 0) ∧ wx.cell? ⟨w.heap.size + 1, 1, none⟩ = some (.int .i64 0) ∧ ∀ o, wx.frozen? ⟨w.heap.size + 1, o, none⟩ = false) ∧
    (wx.cell? ⟨w.heap.size + 1 + 1, 0, none⟩ = some (.int .i64 0) ∧ wx.cell? ⟨w.heap.size + 1 + 1, 1, none⟩ = some (.int .i64 1)) ∧ w.heap.size < wx.heap.size ∧ w.heap.size + 1 < wx.heap.size ∧ w.heap.size + 1 + 1 < wx.heap.size := by
  obtain ⟨a, b, c, d, e, f, g, hl⟩ := h.s.d6
  obtain ⟨i, j, k, l⟩ := h.r.d2
  obtain ⟨m, n, o, p⟩ := h.z.d2
  exact ⟨⟨a, b, c, d, e⟩, ⟨i, j, k⟩, ⟨m, n⟩, hl, l, p⟩

set_option maxRecDepth 100000 in
set_option maxHeartbeats 2000000 in
theorem slope_any (s : Slo) (w : World) (h : SloS s) :
    Calls Tryz.prog 103 #[.agg #[.int .i64 s.la, .int .i64 s.lb, .int .i64 s.ha, .int .i64 s.hb, .bool s.bd, .bool false]] w (RetEx (SlopeP s) (fun r => .agg #[.int .i64 r.1, .int .i64 r.2]) w) := by
  have HH := Lib.hid h
  obtain ⟨bd, a0, a1, b0, b1, c0, c1, d0, d1, lt⟩ := h
  clear lt
  rw [bd]
  clear bd
  go_enter Tryz.func103, Tryz.ntmps103
  go_wp2_with fail
  generalize hW0 : World.alloc (World.alloc (World.alloc w _) _) _ = W0
  have E0 : SlopeEnv w s W0 := by rw [← hW0]; exact ⟨(by repeat (first | (with_reducible exact Below.refl _ _) | (with_reducible assumption) | ((with_reducible refine Below.setCell ?_ ?_ _); rotate_left; (focus (first | omega | (simp; done) | (simp; omega)))) | (with_reducible refine Below.drew ?_) | (with_reducible refine below_drewN ?_ _) | ((with_reducible refine Below.alloc ?_ ?_ _); rotate_left; (focus (first | omega | (simp; done) | (simp; omega)))))), ((Blk.new _ _ _).alloc _).alloc _, (Blk.newAt _ _ (by simp)).alloc _, Blk.newAt _ _ (by simp)⟩
  clear hW0
  by_cases h0 : s.la < 0
  · have t1 : lessB s.la s.lb 0 1 = true := by simp [lessB]; omega
    refine (less_is t1 ⟨by omega, by omega⟩ ⟨by omega, by omega⟩ ⟨by omega, by omega⟩ ⟨by omega, by omega⟩ _).mono ?_
    rintro e w1 ⟨rfl, hb1⟩
    have T1 := Lib.hid t1
    clear t1
    have E1 := E0.keep hb1
    clear E0 hb1
    obtain ⟨⟨k0, k1, k2, k3, k4⟩, ⟨r0, r1, rf⟩, ⟨z0, z1⟩, lt0, lt1, lt2⟩ := E1.facts
    by_cases h1 : 0 < s.ha
    · have t2 : lessB 0 1 s.ha s.hb = true := by simp [lessB]; omega
      have hP : SlopeP s (0, 1) := ⟨by decide, by decide, by decide, by decide, by dsimp only; omega, by dsimp only; omega⟩
      have HP := Lib.hid hP
      have T2 := Lib.hid t2
      clear hP t2
      go_wp2_with fail
      refine (less_is T2.out ⟨by omega, by omega⟩ ⟨by omega, by omega⟩ ⟨by omega, by omega⟩ ⟨by omega, by omega⟩ _).mono ?_
      rintro e w2 ⟨rfl, hb2⟩
      clear k0 k1 k2 k3 k4 r0 r1 rf z0 z1 lt0 lt1 lt2
      have E2 := E1.keep hb2
      clear E1 hb2
      obtain ⟨⟨k0, k1, k2, k3, k4⟩, ⟨r0, r1, rf⟩, ⟨z0, z1⟩, lt0, lt1, lt2⟩ := E2.facts
      have hBE := E2.below
      go_wp2_with fail
      exact bodyPost_ret (v := .agg #[.int .i64 0, .int .i64 1]) (by simp [results, Tryz.results103, go_sem, r0, r1, rf, lt1]) rfl ⟨(0, 1), HP.out, rfl, (by repeat (first | (with_reducible exact Below.refl _ _) | (with_reducible assumption) | ((with_reducible refine Below.setCell ?_ ?_ _); rotate_left; (focus (first | omega | (simp; done) | (simp; omega)))) | (with_reducible refine Below.drew ?_) | (with_reducible refine below_drewN ?_ _) | ((with_reducible refine Below.alloc ?_ ?_ _); rotate_left; (focus (first | omega | (simp; done) | (simp; omega))))))⟩
    · have t2 : lessB 0 1 s.ha s.hb = false := by simp [lessB]; omega
      obtain ⟨pre, hfin⟩ := slope_neg HH.out h0 (by omega)
      have HF := Lib.hid hfin
      have HPRE := Lib.hid pre
      have T2 := Lib.hid t2
      clear hfin pre t2
      go_wp2_with fail
      refine (less_is T2.out ⟨by omega, by omega⟩ ⟨by omega, by omega⟩ ⟨by omega, by omega⟩ ⟨by omega, by omega⟩ _).mono ?_
      rintro e w2 ⟨rfl, hb2⟩
      clear k0 k1 k2 k3 k4 r0 r1 rf z0 z1 lt0 lt1 lt2
      have E2 := E1.keep hb2
      clear E1 hb2
      obtain ⟨⟨k0, k1, k2, k3, k4⟩, ⟨r0, r1, rf⟩, ⟨z0, z1⟩, lt0, lt1, lt2⟩ := E2.facts
      go_wp2_with fail
      refine (less_is T1.out ⟨by omega, by omega⟩ ⟨by omega, by omega⟩ ⟨by omega, by omega⟩ ⟨by omega, by omega⟩ _).mono ?_
      rintro e w3 ⟨rfl, hb3⟩
      clear k0 k1 k2 k3 k4 r0 r1 rf z0 z1 lt0 lt1 lt2
      have E3 := E2.keep hb3
      clear E2 hb3
      obtain ⟨⟨k0, k1, k2, k3, k4⟩, ⟨r0, r1, rf⟩, ⟨z0, z1⟩, lt0, lt1, lt2⟩ := E3.facts
      go_wp2_with fail
      refine (simplest_any 40000 _ _ _ _ _ (by omega) HPRE.out).mono ?_
      rintro e w4 ⟨r, hr, rfl, hb4⟩
      clear k0 k1 k2 k3 k4 r0 r1 rf z0 z1 lt0 lt1 lt2
      have E4 := E3.keep hb4
      clear E3 hb4
      have hs := HF.out r hr
      have HS := Lib.hid hs
      have g1 := hr.1
      have g2 := hr.2.2.2.1
      clear hs hr
      obtain ⟨⟨k0, k1, k2, k3, k4⟩, ⟨r0, r1, rf⟩, ⟨z0, z1⟩, lt0, lt1, lt2⟩ := E4.facts
      have hBE := E4.below
      go_wp2_with fail
      exact bodyPost_ret (v := .agg #[.int .i64 (-r.1), .int .i64 r.2]) (by simp [results, Tryz.results103, go_sem, r0, r1, rf, lt1]) rfl ⟨(-r.1, r.2), HS.out, rfl, (by repeat (first | (with_reducible exact Below.refl _ _) | (with_reducible assumption) | ((with_reducible refine Below.setCell ?_ ?_ _); rotate_left; (focus (first | omega | (simp; done) | (simp; omega)))) | (with_reducible refine Below.drew ?_) | (with_reducible refine below_drewN ?_ _) | ((with_reducible refine Below.alloc ?_ ?_ _); rotate_left; (focus (first | omega | (simp; done) | (simp; omega))))))⟩
  · have t1 : lessB s.la s.lb 0 1 = false := by simp [lessB]; omega
    refine (less_is t1 ⟨by omega, by omega⟩ ⟨by omega, by omega⟩ ⟨by omega, by omega⟩ ⟨by omega, by omega⟩ _).mono ?_
    rintro e w1 ⟨rfl, hb1⟩
    have E1 := E0.keep hb1
    clear E0 hb1
    obtain ⟨⟨k0, k1, k2, k3, k4⟩, ⟨r0, r1, rf⟩, ⟨z0, z1⟩, lt0, lt1, lt2⟩ := E1.facts
    obtain ⟨pre, hfin⟩ := slope_pos HH.out (by omega)
    have HF := Lib.hid hfin
    have HPRE := Lib.hid pre
    have T1 := Lib.hid t1
    clear hfin pre t1
    go_wp2_with fail
    refine (less_is T1.out ⟨by omega, by omega⟩ ⟨by omega, by omega⟩ ⟨by omega, by omega⟩ ⟨by omega, by omega⟩ _).mono ?_
    rintro e w2 ⟨rfl, hb2⟩
    clear k0 k1 k2 k3 k4 r0 r1 rf z0 z1 lt0 lt1 lt2
    have E2 := E1.keep hb2
    clear E1 hb2
    obtain ⟨⟨k0, k1, k2, k3, k4⟩, ⟨r0, r1, rf⟩, ⟨z0, z1⟩, lt0, lt1, lt2⟩ := E2.facts
    go_wp2_with fail
    refine (simplest_any 40000 _ _ _ _ _ (by omega) HPRE.out).mono ?_
    rintro e w4 ⟨r, hr, rfl, hb4⟩
    clear k0 k1 k2 k3 k4 r0 r1 rf z0 z1 lt0 lt1 lt2
    have E4 := E2.keep hb4
    clear E2 hb4
    have hs := HF.out r hr
    have HS := Lib.hid hs
    clear hs hr
    obtain ⟨⟨k0, k1, k2, k3, k4⟩, ⟨r0, r1, rf⟩, ⟨z0, z1⟩, lt0, lt1, lt2⟩ := E4.facts
    have hBE := E4.below
    go_wp2_with fail
    exact bodyPost_ret (v := .agg #[.int .i64 r.1, .int .i64 r.2]) (by simp [results, Tryz.results103, go_sem, r0, r1, rf, lt1]) rfl ⟨r, HS.out, rfl, (by repeat (first | (with_reducible exact Below.refl _ _) | (with_reducible assumption) | ((with_reducible refine Below.setCell ?_ ?_ _); rotate_left; (focus (first | omega | (simp; done) | (simp; omega)))) | (with_reducible refine Below.drew ?_) | (with_reducible refine below_drewN ?_ _) | ((with_reducible refine Below.alloc ?_ ?_ _); rotate_left; (focus (first | omega | (simp; done) | (simp; omega))))))⟩

theorem pq_bd {P Q : Int} {a : Int × Int} (hP : -30000 ≤ P ∧ P ≤ 30000) (hQ : 0 < Q ∧ Q ≤ 20000) (ha : PtS a) : -500000000 ≤ Q * a.2 - P * a.1 ∧ Q * a.2 - P * a.1 ≤ 500000000 ∧ 0 ≤ Q * a.2 ∧ Q * a.2 ≤ 200000000 ∧ -300000000 ≤ P * a.1 ∧ P * a.1 ≤ 300000000 := by
  obtain ⟨a1, a2, a3, a4⟩ := ha
  have h1 := mul_bd (A := 30000) (B := 10000) hP ⟨a1, a2⟩ (by omega)
  have h2 := mul_bd (A := 20000) (B := 10000) (show -20000 ≤ Q ∧ Q ≤ 20000 by omega) ⟨a3, a4⟩ (by omega)
  have h3 : 0 ≤ Q * a.2 := Int.mul_nonneg (by omega) a3
  omega

/-- The greatest of Q*Y - P*X so far; 0 where there is none yet. -/
def BTo (l : List (Int × Int)) (P Q B : Int) : Prop := (l = [] ∧ B = 0) ∨ IsB l P Q B
theorem BTo.bd {l : List (Int × Int)} {P Q B : Int} (h : BTo l P Q B) (hl : ∀ a ∈ l, PtS a) (hP : -30000 ≤ P ∧ P ≤ 30000) (hQ : 0 < Q ∧ Q ≤ 20000) : -500000000 ≤ B ∧ B ≤ 500000000 := by
  rcases h with ⟨-, rfl⟩ | ⟨⟨a, ha, rfl⟩, -⟩
  · omega
  · have := pq_bd hP hQ (hl a ha); omega
theorem BTo.snoc {l : List (Int × Int)} {P Q B : Int} {a : Int × Int} (h : BTo l P Q B) : BTo (l ++ [a]) P Q (if l = [] ∨ B < Q * a.2 - P * a.1 then Q * a.2 - P * a.1 else B) := by
  right
  rcases h with ⟨rfl, -⟩ | ⟨⟨k, hk, hB⟩, hmax⟩
  · simp; exact ⟨⟨a, by simp, rfl⟩, fun b hb => by simp at hb; subst hb; exact Int.le_refl _⟩
  · have hne : l ≠ [] := fun e => by rw [e] at hk; simp at hk
    by_cases hlt : B < Q * a.2 - P * a.1
    · rw [if_pos (.inr hlt)]
      exact ⟨⟨a, by simp, rfl⟩, fun b hb => by
        rcases List.mem_append.1 hb with hb | hb
        · have := hmax b hb; omega
        · simp at hb; subst hb; exact Int.le_refl _⟩
    · rw [if_neg (by rintro (e | e); exact hne e; exact hlt e)]
      exact ⟨⟨k, by simp [hk], hB⟩, fun b hb => by
        rcases List.mem_append.1 hb with hb | hb
        · exact hmax b hb
        · simp at hb; subst hb; omega⟩

/-- What line returns: slope and offset. -/
def LineP (s : Slo) (l : List (Int × Int)) (r : Int × Int × Int) : Prop := SlopeP s (r.1, r.2.1) ∧ IsB l r.1 r.2.1 r.2.2

structure LineEnv (w : World) (P Q B : Int) (b5 b6 : Nat) (wx : World) : Prop where
  below : Below w.heap.size w wx
  r : Blk wx (w.heap.size + 1) #[.int .i64 0, .int .i64 0, .int .i64 0] 135
  m : Blk wx b5 #[.int .i64 P, .int .i64 Q] 111
  z : Blk wx b6 #[.int .i64 P, .int .i64 Q, .int .i64 B] 135
  h5 : w.heap.size + 1 < b5
  h6 : w.heap.size + 1 < b6
  h56 : b5 < b6

set_option maxRecDepth 100000 in
set_option maxHeartbeats 2000000 in
theorem line_any (s : Slo) (pv : Value) (l : List (Int × Int)) (w : World) (h : SloS s) (hl : ∀ a ∈ l, PtS a) (hne : l ≠ []) (hR : PReads w pv l) :
    Calls Tryz.prog 90 #[pv, .agg #[.int .i64 s.la, .int .i64 s.lb, .int .i64 s.ha, .int .i64 s.hb, .bool s.bd, .bool false]] w (RetEx (LineP s l) (fun r => .agg #[.int .i64 r.1, .int .i64 r.2.1, .int .i64 r.2.2]) w) := by
  obtain ⟨a, cap, rfl, hlc, hcm, hR'⟩ := hR
  rcases hR' with hnil | ⟨b, off, rfl, hb, hc⟩
  · exact absurd hnil hne
  have hlm : l.length ≤ 9223372036854775807 := Nat.le_trans hlc hcm
  have hpos : 0 < l.length := List.length_pos_iff.2 hne
  have HNE := Lib.hid hne
  clear hne
  go_enter Tryz.func90, Tryz.ntmps90
  go_wp2_with fail
  generalize hW0 : World.alloc (World.alloc w _) _ = W0
  have R0 : Blk W0 (w.heap.size + 1) #[.int .i64 0, .int .i64 0, .int .i64 0] 135 := by rw [← hW0]; exact Blk.newAt _ _ (by simp)
  have hB0 : Below w.heap.size w W0 := by rw [← hW0]; exact (by repeat (first | (with_reducible exact Below.refl _ _) | (with_reducible assumption) | ((with_reducible refine Below.setCell ?_ ?_ _); rotate_left; (focus (first | omega | (simp; done) | (simp; omega)))) | (with_reducible refine Below.drew ?_) | (with_reducible refine below_drewN ?_ _) | ((with_reducible refine Below.alloc ?_ ?_ _); rotate_left; (focus (first | omega | (simp; done) | (simp; omega))))))
  clear hW0
  refine (slope_any s _ h).mono ?_
  rintro e w1 ⟨⟨P, Q⟩, hs, rfl, hb1⟩
  have hsz := hB0.size
  have hR0 := R0.lt
  have hsz1 := hb1.size
  have R1 := R0.keep hb1 R0.lt
  have hB1 := binto hB0 hb1
  have hPQ : 0 < Q ∧ Q ≤ 20000 ∧ -30000 ≤ P ∧ P ≤ 30000 := ⟨hs.1, hs.2.1, hs.2.2.1, hs.2.2.2.1⟩
  obtain ⟨g1, g2, g3, g4⟩ := hPQ
  have HS := Lib.hid hs
  clear R0 hB0 hb1 hs h
  have HC := Lib.hid hc
  clear hc
  dsimp only
  go_wp2_with fail
  generalize hW2 : World.alloc (World.alloc w1 _) _ = W2
  have E0 : LineEnv w P Q 0 w1.heap.size (w1.heap.size + 1) W2 := by
    rw [← hW2]
    exact ⟨(hB1.alloc hB1.size _).alloc (by simp; have := hB1.size; omega) _, (R1.alloc _).alloc _, (Blk.new _ _ _).alloc _, Blk.newAt _ _ (by simp), by omega, by omega, by omega⟩
  clear hW2 R1
  go_loopw [19] (fun i wr => ∃ (k : Nat) (B : Int), k ≤ l.length ∧ i = .int .i64 k ∧ Hid (BTo (l.take k) P Q B) ∧ LineEnv w P Q B w1.heap.size (w1.heap.size + 1) wr) (fun i _ => l.length - (intOf i).toNat)
  case atStart => exact ⟨0, 0, Nat.zero_le _, rfl, .inl ⟨rfl, rfl⟩, E0⟩
  case round =>
    obtain ⟨k, B, hk, rfl, hB, E⟩ := hrel
    have hBb := hB.out.bd (fun a ha => hl a (List.mem_of_mem_take ha)) ⟨g3, g4⟩ ⟨g1, g2⟩
    obtain ⟨hBb1, hBb2⟩ := hBb
    obtain ⟨m0, m1, mf, mlt⟩ := E.m.d2
    obtain ⟨z0, z1, z2, zf, zlt⟩ := E.z.d3
    by_cases hlt : k < l.length
    · obtain ⟨q, hq⟩ : ∃ q, l[k]? = some q := ⟨_, List.getElem?_eq_getElem hlt⟩
      have hqm := List.mem_of_getElem? hq
      obtain ⟨c0, c1⟩ := HC.out k q hq
      have c0' := keep E.below c0 hb
      have c1' := keep E.below c1 hb
      clear c0 c1
      obtain ⟨n1, n2, n3, n4, n5, n6⟩ := pq_bd ⟨g3, g4⟩ ⟨g1, g2⟩ (hl q hqm)
      have hsn := hB.out.snoc (a := q)
      rw [← take_snoc' hq] at hsn
      have hkz : (l.take k = [] ↔ k = 0) := by
        rw [List.take_eq_nil_iff]; constructor
        · rintro (e | e)
          · exact e
          · rw [e] at hpos; simp at hpos
        · exact fun e => .inl e
      simp only [hkz] at hsn
      have HSN := Lib.hid hsn
      have HQ := Lib.hid hq
      clear hsn hq hkz
      have hBE := E.below
      have hh5 := E.h5
      by_cases hk0 : k = 0
      · subst hk0
        have hfin := HSN.out
        rw [if_pos (.inl rfl)] at hfin
        have HF := Lib.hid hfin
        clear hfin HSN
        simp only [Nat.zero_mul, Nat.add_zero] at c0' c1'
        go_wp2_with fail
        go_roundw
        case rel =>
          refine ⟨0 + 1, _, by omega, by go_num, HF.out, ⟨(by repeat (first | (with_reducible exact Below.refl _ _) | (with_reducible assumption) | ((with_reducible refine Below.setCell ?_ ?_ _); rotate_left; (focus (first | omega | (simp; done) | (simp; omega)))) | (with_reducible refine Below.drew ?_) | (with_reducible refine below_drewN ?_ _) | ((with_reducible refine Below.alloc ?_ ?_ _); rotate_left; (focus (first | omega | (simp; done) | (simp; omega)))))), (E.r.set_other (by have := E.h6; simp; omega) _).alloc _, (E.m.set_other (by simp) _).alloc _, ?_, E.h5, E.h6, E.h56⟩⟩
          have := (E.z.set (o := 2) (.int .i64 (Q * q.2 - P * q.1))).alloc (Obj.cells #[Value.int .i64 q.1, Value.int .i64 q.2] 109)
          simpa using this
        case measure => simp [intOf]; omega
      · have hk0b : ((k : Int) == 0) = false := by rw [beq_eq_false_iff_ne]; omega
        by_cases hgt : B < Q * q.2 - P * q.1
        · have hfin := HSN.out
          rw [if_pos (.inr hgt)] at hfin
          have HF := Lib.hid hfin
          clear hfin HSN
          go_wp2_with fail
          go_roundw
          case rel =>
            refine ⟨k + 1, _, by omega, by go_num, HF.out, ⟨(by repeat (first | (with_reducible exact Below.refl _ _) | (with_reducible assumption) | ((with_reducible refine Below.setCell ?_ ?_ _); rotate_left; (focus (first | omega | (simp; done) | (simp; omega)))) | (with_reducible refine Below.drew ?_) | (with_reducible refine below_drewN ?_ _) | ((with_reducible refine Below.alloc ?_ ?_ _); rotate_left; (focus (first | omega | (simp; done) | (simp; omega)))))), (E.r.set_other (by have := E.h6; simp; omega) _).alloc _, (E.m.set_other (by simp) _).alloc _, ?_, E.h5, E.h6, E.h56⟩⟩
            have := (E.z.set (o := 2) (.int .i64 (Q * q.2 - P * q.1))).alloc (Obj.cells #[Value.int .i64 q.1, Value.int .i64 q.2] 109)
            simpa using this
          case measure => simp [intOf]; omega
        · have hfin := HSN.out
          rw [if_neg (by rintro (e | e); exact hk0 e; exact hgt e)] at hfin
          have HF := Lib.hid hfin
          clear hfin HSN
          go_wp2_with fail
          go_roundw
          case rel => exact ⟨k + 1, B, by omega, by go_num, HF.out, ⟨(by repeat (first | (with_reducible exact Below.refl _ _) | (with_reducible assumption) | ((with_reducible refine Below.setCell ?_ ?_ _); rotate_left; (focus (first | omega | (simp; done) | (simp; omega)))) | (with_reducible refine Below.drew ?_) | (with_reducible refine below_drewN ?_ _) | ((with_reducible refine Below.alloc ?_ ?_ _); rotate_left; (focus (first | omega | (simp; done) | (simp; omega)))))), E.r.alloc _, E.m.alloc _, E.z.alloc _, E.h5, E.h6, E.h56⟩⟩
          case measure => simp [intOf]; omega
    · obtain rfl : k = l.length := by omega
      obtain ⟨r0, r1, r2, rf, rlt⟩ := E.r.d3
      have hBE := E.below
      have hfin : IsB l P Q B := by
        rcases hB.out with ⟨e, -⟩ | e
        · rw [List.take_length] at e; exact absurd e HNE.out
        · rwa [List.take_length] at e
      have HF := Lib.hid hfin
      clear hfin
      go_wp2_with fail
      exact bodyPost_ret (v := .agg #[.int .i64 P, .int .i64 Q, .int .i64 B]) (by simp [results, Tryz.results90, go_sem, r0, r1, r2, rf, rlt]) rfl ⟨(P, Q, B), ⟨HS.out, HF.out⟩, rfl, (by repeat (first | (with_reducible exact Below.refl _ _) | (with_reducible assumption) | ((with_reducible refine Below.setCell ?_ ?_ _); rotate_left; (focus (first | omega | (simp; done) | (simp; omega)))) | (with_reducible refine Below.drew ?_) | (with_reducible refine below_drewN ?_ _) | ((with_reducible refine Below.alloc ?_ ?_ _); rotate_left; (focus (first | omega | (simp; done) | (simp; omega))))))⟩

end Go.Proofs.YtnfgedbcfclnmaaGreat
