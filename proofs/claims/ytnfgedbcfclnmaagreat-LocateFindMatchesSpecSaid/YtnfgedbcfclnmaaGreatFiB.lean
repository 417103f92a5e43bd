/- LocateFindMatchesSpec answers true for every image, valid or not; no condition. -/
import Derived.Test.YtnfgedbcfclnmaaGreatColsOk
import Derived.Test.YtnfgedbcfclnmaaGreatFindF
import Derived.Test.YtnfgedbcfclnmaaGreatKit
import Derived.Deep.RegionHeld3
import Derived.Test.YtnfgedbcfclnmaaGreatLeftsW
import Derived.Test.YtnfgedbcfclnmaaGreatFilled
import Derived.Test.YtnfgedbcfclnmaaGreatTopsW
import Derived.Test.YtnfgedbcfclnmaaGreatFiA
import Derived.Deep.DeepCutAuto
import Derived.Deep.CutBlock
import Derived.Test.YtnfgedbcfclnmaaGreatRefA
import Derived.Test.YtnfgedbcfclnmaaGreatFindW
import Derived.Test.YtnfgedbcfclnmaaGreatSearch
import Derived.Test.YtnfgedbcfclnmaaGreatInts
import Derived.Test.YtnfgedbcfclnmaaGreatKit5
import Derived.Test.YtnfgedbcfclnmaaGreatTurnF
import Derived.Test.YtnfgedbcfclnmaaGreatLeftF
import Derived.ProofKit
import Derived.Lib.SmallJoins
import Derived.ChangeOld
import Derived.Below
import Derived.Test.YtnfgedbcfclnmaaGreatSearched
set_option linter.unusedVariables false
set_option linter.unusedSimpArgs false

namespace Go.Proofs.YtnfgedbcfclnmaaGreat
open Go.RowKit

/-- Two slopes that are far enough apart part every line beyond D. -/
theorem near_hi {l : List (Int × Int)} {P1 P2 Q B1 B2 x D : Int} (hQ : 0 < Q) (h1 : IsB l P1 Q B1) (h2 : IsB l P2 Q B2) (hP : P1 ≤ P2) (hD : Q ≤ (P2 - P1) * D) (hx : ∀ a ∈ l, a.1 + D ≤ x) : (P1 * x + B1) / Q < (P2 * x + B2) / Q := by
  obtain ⟨⟨a, ha, e1⟩, -⟩ := h1
  have e2 := h2.2 a ha
  have e3 := hx a ha
  have e4 := Int.mul_le_mul_of_nonneg_left (show D ≤ x - a.1 by omega) (show 0 ≤ P2 - P1 by omega)
  have e5 : (P2 - P1) * (x - a.1) = P2 * x - P2 * a.1 - (P1 * x - P1 * a.1) := by
    rw [Int.sub_mul, Int.mul_sub, Int.mul_sub]
  have e6 : P1 * x + B1 + Q ≤ P2 * x + B2 := by omega
  have e7 : (P1 * x + B1 + Q) / Q = (P1 * x + B1) / Q + 1 := by
    have := Int.add_mul_ediv_right (P1 * x + B1) 1 (show Q ≠ 0 by omega)
    rwa [Int.one_mul] at this
  have e8 := Int.ediv_le_ediv hQ e6
  omega
theorem near_lo {l : List (Int × Int)} {P1 P2 Q B1 B2 x D : Int} (hQ : 0 < Q) (h1 : IsB l P1 Q B1) (h2 : IsB l P2 Q B2) (hP : P1 ≤ P2) (hD : Q ≤ (P2 - P1) * D) (hx : ∀ a ∈ l, x + D ≤ a.1) : (P2 * x + B2) / Q < (P1 * x + B1) / Q := by
  obtain ⟨⟨a, ha, e1⟩, -⟩ := h2
  have e2 := h1.2 a ha
  have e3 := hx a ha
  have e4 := Int.mul_le_mul_of_nonneg_left (show D ≤ a.1 - x by omega) (show 0 ≤ P2 - P1 by omega)
  have e5 : (P2 - P1) * (a.1 - x) = P2 * a.1 - P2 * x - (P1 * a.1 - P1 * x) := by
    rw [Int.sub_mul, Int.mul_sub, Int.mul_sub]
  have e6 : P2 * x + B2 + Q ≤ P1 * x + B1 := by omega
  have e7 : (P2 * x + B2 + Q) / Q = (P2 * x + B2) / Q + 1 := by
    have := Int.add_mul_ediv_right (P2 * x + B2) 1 (show Q ≠ 0 by omega)
    rwa [Int.one_mul] at this
  have e8 := Int.ediv_le_ediv hQ e6
  omega

/-- A value that is completed lies near the known ones. -/
theorem only_near {l : List (Int × Int)} (hl : ∀ a ∈ l, PtS a) (hi : Incr l) {s : Slo} (hr : Rep s (listC l)) (hbd : s.bd = true) (hp : possF s = true) {n x v : Int} (hn : 0 < n) (hb1 : s.lb ≤ n) (hb2 : s.hb ≤ n) {x0 x1 : Int} (hx : ∀ a ∈ l, x0 ≤ a.1 ∧ a.1 ≤ x1) (h : OnlyV l x v) : x0 - n * n ≤ x ∧ x ≤ x1 + n * n := by
  have hne : l ≠ [] := by
    rintro rfl
    obtain ⟨c, i, j, p, q, hi', _⟩ := h.2.2.1
    simp at hi'
  have hlt : s.la * s.hb < s.ha * s.lb := by
    simp only [possF, hbd, lessB, Bool.not_true, Bool.false_or, decide_eq_true_eq] at hp
    exact hp
  obtain ⟨hlb, hhb⟩ : 0 < s.lb ∧ 0 < s.hb := by
    rcases hr with ⟨e, _⟩ | ⟨-, k2, k3, -⟩
    · rw [e] at hbd; cases hbd
    · exact ⟨k2, k3⟩
  obtain ⟨E, hE⟩ : ∃ E, E = s.ha * s.lb - s.la * s.hb := ⟨_, rfl⟩
  have hE1 : 1 ≤ E := by omega
  have hnn : s.lb * s.hb ≤ n * n := Int.mul_le_mul hb1 hb2 (by omega) (by omega)
  have hnn0 : 0 < s.lb * s.hb := Int.mul_pos hlb hhb
  obtain ⟨D, hD⟩ : ∃ D, D = n * n + 1 := ⟨_, rfl⟩
  obtain ⟨N, hN⟩ : ∃ N, N = 2 * D := ⟨_, rfl⟩
  obtain ⟨G, hG⟩ : ∃ G, G = s.lb * s.hb := ⟨_, rfl⟩
  rw [← hG] at hnn hnn0
  obtain ⟨P1, hP1⟩ : ∃ P, P = s.la * s.hb * N + E := ⟨_, rfl⟩
  obtain ⟨P2, hP2⟩ : ∃ P, P = s.ha * s.lb * N - E := ⟨_, rfl⟩
  obtain ⟨Q, hQ⟩ : ∃ Q, Q = G * N := ⟨_, rfl⟩
  have hN4 : 4 ≤ N := by omega
  have hQ0 : 0 < Q := by rw [hQ]; exact Int.mul_pos hnn0 (by omega)
  have hEN : E < E * N := by
    have := Int.mul_lt_mul_of_pos_left (show 1 < N by omega) (show 0 < E by omega)
    rwa [Int.mul_one] at this
  have f1 : Fits (listC l) P1 Q := by
    refine hr.fits hbd hQ0 ?_ ?_
    · have : P1 * s.lb - s.la * Q = E * s.lb := by rw [hP1, hQ, hG]; grind
      have := Int.mul_pos (show 0 < E by omega) hlb
      omega
    · have : s.ha * Q - P1 * s.hb = s.hb * (E * N - E) := by rw [hP1, hQ, hG, hE]; grind
      have := Int.mul_pos hhb (show 0 < E * N - E by omega)
      omega
  have f2 : Fits (listC l) P2 Q := by
    refine hr.fits hbd hQ0 ?_ ?_
    · have : P2 * s.lb - s.la * Q = s.lb * (E * N - E) := by rw [hP2, hQ, hG, hE]; grind
      have := Int.mul_pos hlb (show 0 < E * N - E by omega)
      omega
    · have : s.ha * Q - P2 * s.hb = E * s.hb := by rw [hP2, hQ, hG]; grind
      have := Int.mul_pos (show 0 < E by omega) hhb
      omega
  have hdiff : P2 - P1 = E * (N - 2) := by rw [hP2, hP1, hE]; grind
  have hPle : P1 ≤ P2 := by
    have := Int.mul_nonneg (show 0 ≤ E by omega) (show 0 ≤ N - 2 by omega)
    omega
  have hQD : Q ≤ (P2 - P1) * D := by
    rw [hdiff, hQ]
    have a1 : G * N ≤ (D - 1) * N := Int.mul_le_mul_of_nonneg_right (by omega) (by omega)
    have a2 : (D - 1) * N = (N - 2) * D := by rw [hN]; grind
    have a3 : 1 * ((N - 2) * D) ≤ E * ((N - 2) * D) := Int.mul_le_mul_of_nonneg_right hE1 (Int.mul_nonneg (by omega) (by omega))
    rw [Int.mul_assoc]
    omega
  obtain ⟨B1, hB1⟩ := exists_B hne P1 Q
  obtain ⟨B2, hB2⟩ := exists_B hne P2 Q
  have v1 := h.2.2.2.2 _ (mid_poss hl hi (x := x) hQ0 f1 hB1)
  have v2 := h.2.2.2.2 _ (mid_poss hl hi (x := x) hQ0 f2 hB2)
  constructor
  · rcases Int.lt_or_le x (x0 - n * n) with g | g
    · have := near_lo hQ0 hB1 hB2 hPle hQD (x := x) (fun a ha => by have := (hx a ha).1; omega)
      omega
    · exact g
  · rcases Int.lt_or_le (x1 + n * n) x with g | g
    · have := near_hi hQ0 hB1 hB2 hPle hQD (x := x) (fun a ha => by have := (hx a ha).2; omega)
      omega
    · exact g

/-- How lefts that go too far are lost: u / v bounds the slope. -/
theorem far_cases {out : List Int} {F s N u v : Int} (hs : 3 ≤ s ∧ s ≤ 6) (hN : (out.length : Int) = N) (hN2 : N ≤ 510) (hu : 0 < u) (hv : 0 < v)
    (hwin : ∀ k : Nat, k < out.length → 0 ≤ out.getD k 0 → F + 1 ≤ out.getD k 0 ∧ out.getD k 0 ≤ F + 4 * s ∧ out.getD k 0 ≤ 639)
    (hlo : ∀ k : Nat, k < out.length → -1 ≤ out.getD k 0) {k0 : Nat} (hk0 : k0 < out.length) (h0 : 641 ≤ fillV out k0) :
    (∃ n a b : Int, 0 < n ∧ n * u < 4 * s * v ∧ b - a = n + 2 * (n * n) ∧ ∀ k : Nat, k < out.length → fillV out k ≠ -1 → a ≤ k ∧ (k : Int) ≤ b) ∨
    (∀ k : Nat, k < out.length → fillV out k ≠ -1 → 640 * v - u * (N - 1 - k) ≤ v * fillV out k) ∨
    (∀ k : Nat, k < out.length → fillV out k ≠ -1 → 640 * v - u * k ≤ v * fillV out k) := by
  have hnk : ¬ 0 ≤ out.getD k0 0 := fun h => by
    have := (hwin k0 hk0 h).2.2
    rw [fillV, if_pos h] at h0; omega
  obtain ⟨l, hle⟩ : ∃ l, l = ptsTo out out.length := ⟨_, rfl⟩
  have hl : ∀ a ∈ l, PtS a := by
    rw [hle]
    intro a ha
    obtain ⟨i, h1, h2, rfl⟩ := ptsTo_mem ha
    have := hwin i h1 h2
    exact ⟨by dsimp only; omega, by dsimp only; omega, by dsimp only; omega, by dsimp only; omega⟩
  have hi : Incr l := by rw [hle]; exact ptsTo_incr _
  have hfv : ∀ k : Nat, k < out.length → fillV out k ≠ -1 → (((k : Int), fillV out k) ∈ l) ∨ OnlyV l k (fillV out k) := by
    intro k hk hne
    by_cases h : 0 ≤ out.getD k 0
    · left; rw [fillV, if_pos h, hle]; exact mem_ptsTo hk h
    · right
      rw [fillV, if_neg h, ← hle] at hne ⊢
      by_cases hex : ∃ v, OnlyV l k v
      · obtain ⟨v, hv⟩ := hex
        rw [fillAt_only hv]; exact hv
      · exact absurd (fillAt_none fun v hv => hex ⟨v, hv⟩) hne
  have honly : OnlyV l k0 (fillV out k0) := by
    rcases hfv k0 hk0 (by omega) with h | h
    · rw [hle] at h
      obtain ⟨i, h1, h2, h3⟩ := ptsTo_mem h
      injection h3 with h3 h4
      obtain rfl : k0 = i := by omega
      exact absurd h2 hnk
    · exact h
  have hcons := honly.2.1
  obtain ⟨c, hc⟩ := honly.2.2.1
  have hr : Rep (allF l) (listC l) := rep_all hi
  have hbd : (allF l).bd = true := by
    rcases hr with ⟨_, e⟩ | ⟨e, _⟩
    · exact absurd hc (e c)
    · exact e
  have hp : possF (allF l) = true := hr.poss.2 hcons
  -- the first and the last known row
  obtain ⟨i, j, p, q, hpi, hqj, hij, -⟩ := hc
  have hlen : j < l.length := (List.getElem?_eq_some_iff.1 hqj).1
  obtain ⟨a0, ha0⟩ : ∃ a, l[0]? = some a := ⟨_, List.getElem?_eq_getElem (by omega)⟩
  obtain ⟨a1, ha1⟩ : ∃ a, l[l.length - 1]? = some a := ⟨_, List.getElem?_eq_getElem (by omega)⟩
  have hbet : ∀ a ∈ l, a0.1 ≤ a.1 ∧ a.1 ≤ a1.1 := by
    intro a ha
    obtain ⟨m, hm⟩ := List.getElem?_of_mem ha
    have hml := (List.getElem?_eq_some_iff.1 hm).1
    constructor
    · rcases Nat.eq_zero_or_pos m with rfl | g
      · rw [ha0] at hm; injection hm with hm; rw [hm]; exact Int.le_refl _
      · exact Int.le_of_lt (hi 0 m a0 a ha0 hm g)
    · rcases Nat.lt_or_ge m (l.length - 1) with g | g
      · exact Int.le_of_lt (hi m _ a a1 hm ha1 g)
      · obtain rfl : m = l.length - 1 := by omega
        rw [ha1] at hm; injection hm with hm; rw [hm]; exact Int.le_refl _
  obtain ⟨n, hn⟩ : ∃ n, n = a1.1 - a0.1 := ⟨_, rfl⟩
  have h01 : a0.1 < a1.1 := hi 0 (l.length - 1) a0 a1 ha0 ha1 (by omega)
  have hn0 : 0 < n := by omega
  have hcn : ∀ c, listC l c → c.2 ≤ n := by
    rintro c ⟨i, j, p, q, h1, h2, h3, h4⟩
    have b1 := hbet p (List.mem_of_getElem? h1)
    have b2 := hbet q (List.mem_of_getElem? h2)
    rcases h4 with ⟨h4, rfl⟩ | ⟨h4, rfl⟩ <;> dsimp only <;> omega
  have hbn : (allF l).lb ≤ n ∧ (allF l).hb ≤ n := by
    rcases hr with ⟨e, _⟩ | ⟨-, -, -, -, ⟨c, hc, -, e1⟩, -, ⟨d, hd, -, e2⟩, -⟩
    · rw [e] at hbd; cases hbd
    · exact ⟨by rw [e1]; exact hcn c hc, by rw [e2]; exact hcn d hd⟩
  by_cases hcase : n * u < 4 * s * v
  · left
    refine ⟨n, a0.1 - n * n, a1.1 + n * n, hn0, hcase, by omega, fun k hk hne => ?_⟩
    rcases hfv k hk hne with h | h
    · have := hbet _ h
      have := Int.mul_nonneg (show 0 ≤ n by omega) (show 0 ≤ n by omega)
      dsimp only at *
      omega
    · exact only_near hl hi hr hbd hp hn0 hbn.1 hbn.2 hbet h
  · right
    obtain ⟨hlb, hhb⟩ : 0 < (allF l).lb ∧ 0 < (allF l).hb := by
      rcases hr with ⟨e, _⟩ | ⟨-, k2, k3, -⟩
      · rw [e] at hbd; cases hbd
      · exact ⟨k2, k3⟩
    have hlt : (allF l).la * (allF l).hb < (allF l).ha * (allF l).lb := by
      simp only [possF, hbd, lessB, Bool.not_true, Bool.false_or, decide_eq_true_eq] at hp
      exact hp
    obtain ⟨P, hP⟩ : ∃ P, P = (allF l).la + (allF l).ha := ⟨_, rfl⟩
    obtain ⟨Q, hQ⟩ : ∃ Q, Q = (allF l).lb + (allF l).hb := ⟨_, rfl⟩
    have hQ0 : 0 < Q := by omega
    have hf : Fits (listC l) P Q := by
      refine hr.fits hbd hQ0 ?_ ?_
      · rw [hP, hQ, Int.mul_add, Int.add_mul]; omega
      · rw [hP, hQ, Int.mul_add, Int.add_mul]; omega
    have hne : l ≠ [] := by rintro rfl; simp at ha0
    obtain ⟨B, hB⟩ := exists_B hne P Q
    have hval : ∀ k : Nat, k < out.length → fillV out k ≠ -1 → fillV out k = (P * k + B) / Q := by
      intro k hk hne
      rcases hfv k hk hne with h | h
      · obtain ⟨t1, t2⟩ := line_through hi hQ0 hf hB h
        dsimp only at t1 t2
        have t3 := Int.le_ediv_of_mul_le hQ0 (show fillV out k * Q ≤ P * k + B by rw [Int.mul_comm (fillV out k) Q]; exact t1)
        have t4 := Int.ediv_lt_of_lt_mul hQ0 (show P * k + B < (fillV out k + 1) * Q by rw [Int.mul_comm (fillV out k + 1) Q]; exact t2)
        omega
      · exact (h.2.2.2.2 _ (mid_poss hl hi hQ0 hf hB)).symm
    -- the slope is small
    have hslope : P * n < 4 * s * Q ∧ -(P * n) < 4 * s * Q := by
      have hc' : listC l (a1.2 - a0.2, n) := ⟨0, l.length - 1, a0, a1, ha0, ha1, by omega, .inl ⟨h01, by rw [hn]⟩⟩
      obtain ⟨g1, g2⟩ := hf _ hc'
      dsimp only at g1 g2
      have w0 := List.mem_of_getElem? ha0
      have w1 := List.mem_of_getElem? ha1
      rw [hle] at w0 w1
      obtain ⟨i0, x1, x2, rfl⟩ := ptsTo_mem w0
      obtain ⟨i1, y1, y2, rfl⟩ := ptsTo_mem w1
      have z0 := hwin i0 x1 x2
      have z1 := hwin i1 y1 y2
      dsimp only at *
      have m1 : (out.getD i1 0 - out.getD i0 0 + 1) * Q ≤ 4 * s * Q := Int.mul_le_mul_of_nonneg_right (by omega) (by omega)
      have m2 : (-(4 * s)) * Q ≤ (out.getD i1 0 - out.getD i0 0 - 1) * Q := Int.mul_le_mul_of_nonneg_right (by omega) (by omega)
      rw [Int.neg_mul] at m2
      omega
    have habs : v * P < u * Q ∧ -(v * P) < u * Q := by
      have c1 : 4 * s * v * Q ≤ n * u * Q := Int.mul_le_mul_of_nonneg_right (by omega) (by omega)
      have c2 := Int.mul_lt_mul_of_pos_left hslope.1 hv
      have c3 := Int.mul_lt_mul_of_pos_left hslope.2 hv
      have e1 : v * (4 * s * Q) = 4 * s * v * Q := by grind
      have e2 : v * (P * n) = v * P * n := by grind
      have e3 : v * -(P * n) = -(v * P) * n := by grind
      have e4 : n * u * Q = u * Q * n := by grind
      rw [e1, e2] at c2
      rw [e1, e3] at c3
      rw [e4] at c1
      exact ⟨Int.lt_of_mul_lt_mul_right (Int.lt_of_lt_of_le c2 c1) (by omega), Int.lt_of_mul_lt_mul_right (Int.lt_of_lt_of_le c3 c1) (by omega)⟩
    have hk0v : 641 * Q ≤ P * k0 + B := by
      have e := hval k0 hk0 (by omega)
      have := Int.mul_le_of_le_ediv hQ0 (show 641 ≤ (P * k0 + B) / Q by omega)
      exact this
    by_cases hPs : 0 ≤ P
    · left
      intro k hk hne
      have e := hval k hk hne
      have hlt2 := Int.lt_ediv_add_one_mul_self (P * k + B) hQ0
      rw [← e] at hlt2
      generalize fillV out k = y at *
      rcases Nat.lt_or_ge k k0 with g | g
      · have d1 := Int.mul_le_mul_of_nonneg_right (show v * P ≤ u * Q by omega) (show 0 ≤ (k0 : Int) - k by omega)
        have d2 : v * (641 * Q) ≤ v * (P * k0 + B) := Int.mul_le_mul_of_nonneg_left hk0v (by omega)
        have d3 : v * (P * k + B) < v * ((y + 1) * Q) := Int.mul_lt_mul_of_pos_left hlt2 hv
        have d4 : (641 * v - u * ((k0 : Int) - k)) * Q < (v * (y + 1)) * Q := by grind
        have d5 := Int.lt_of_mul_lt_mul_right d4 (by omega)
        have d6 := Int.mul_le_mul_of_nonneg_left (show (k0 : Int) - k ≤ N - 1 - k by omega) (show 0 ≤ u by omega)
        rw [Int.mul_add, Int.mul_one] at d5
        omega
      · have d1 := Int.mul_le_mul_of_nonneg_left (show (k0 : Int) ≤ k by omega) hPs
        have d4 : 641 * Q < (y + 1) * Q := by omega
        have d5 := Int.lt_of_mul_lt_mul_right d4 (by omega)
        have d6 := Int.mul_nonneg (show 0 ≤ u by omega) (show 0 ≤ N - 1 - (k : Int) by omega)
        have d7 := Int.mul_le_mul_of_nonneg_left (show 640 ≤ y by omega) (show 0 ≤ v by omega)
        omega
    · right
      intro k hk hne
      have e := hval k hk hne
      have hlt2 := Int.lt_ediv_add_one_mul_self (P * k + B) hQ0
      rw [← e] at hlt2
      generalize fillV out k = y at *
      rcases Nat.lt_or_ge k0 k with g | g
      · have d1 := Int.mul_le_mul_of_nonneg_right (show -(v * P) ≤ u * Q by omega) (show 0 ≤ (k : Int) - k0 by omega)
        have d2 : v * (641 * Q) ≤ v * (P * k0 + B) := Int.mul_le_mul_of_nonneg_left hk0v (by omega)
        have d3 : v * (P * k + B) < v * ((y + 1) * Q) := Int.mul_lt_mul_of_pos_left hlt2 hv
        have d4 : (641 * v - u * ((k : Int) - k0)) * Q < (v * (y + 1)) * Q := by grind
        have d5 := Int.lt_of_mul_lt_mul_right d4 (by omega)
        have d6 := Int.mul_le_mul_of_nonneg_left (show (k : Int) - k0 ≤ k by omega) (show 0 ≤ u by omega)
        rw [Int.mul_add, Int.mul_one] at d5
        omega
      · have d1 := Int.mul_le_mul_of_nonneg_left (show (k : Int) ≤ k0 by omega) (show 0 ≤ -P by omega)
        rw [Int.neg_mul, Int.neg_mul] at d1
        have d4 : 641 * Q < (y + 1) * Q := by omega
        have d5 := Int.lt_of_mul_lt_mul_right d4 (by omega)
        have d6 := Int.mul_nonneg (show 0 ≤ u by omega) (show 0 ≤ (k : Int) by omega)
        have d7 := Int.mul_le_mul_of_nonneg_left (show 640 ≤ y by omega) (show 0 ≤ v by omega)
        omega

end Go.Proofs.YtnfgedbcfclnmaaGreat

namespace Go.Proofs.YtnfgedbcfclnmaaGreat
open Go.RowKit

def lostBy (rt n : Nat) : Bool := decide (n / 58 ≤ rt)
def lostFrom (rb n : Nat) : Bool := decide (rb ≤ n / 58)
def lostLine (r0 c0 ra rb n : Nat) : Bool := (n / 58 == r0 && decide (c0 ≤ n % 58)) || (n % 58 == 53 && (decide (ra ≤ n / 58) && decide (n / 58 ≤ rb)))
def leftOver (L : Nat) (lost : Nat → Bool) : Nat := (List.range (rowsN L * 58)).countP fun n => rulerB L n && !lost n

theorem far_by2 : decide (4 * leftOver 2 (lostBy 11) < 3 * allN 2) = true := by kernel_rfl
theorem far_from2 : decide (4 * leftOver 2 (lostFrom 73) < 3 * allN 2) = true := by kernel_rfl
theorem far_bot2 : decide (4 * leftOver 2 (lostLine 80 11 57 79) < 3 * allN 2) = true := by kernel_rfl
theorem far_top2 : decide (4 * leftOver 2 (lostLine 4 11 5 27) < 3 * allN 2) = true := by kernel_rfl
theorem far_by4 : decide (4 * leftOver 4 (lostBy 11) < 3 * allN 4) = true := by kernel_rfl
theorem far_from4 : decide (4 * leftOver 4 (lostFrom 41) < 3 * allN 4) = true := by kernel_rfl
theorem far_bot4 : decide (4 * leftOver 4 (lostLine 48 17 36 47) < 3 * allN 4) = true := by kernel_rfl
theorem far_top4 : decide (4 * leftOver 4 (lostLine 4 17 5 16) < 3 * allN 4) = true := by kernel_rfl

theorem agree_le {W H : Int} {px l o : List Int} {s : Int} {L : Nat} (lost : Nat → Bool) (h : ∀ n, n < rowsN L * 58 → lost n = true → agreeB W H px l o s L n = false) : agreeN W H px l o s L ≤ leftOver L lost := by
  unfold agreeN leftOver
  refine List.countP_mono_left fun n hn hb => ?_
  have hn' : n < rowsN L * 58 := List.mem_range.1 hn
  have h1 : rulerB L n = true := by
    simp only [agreeB, Bool.and_eq_true] at hb
    exact hb.1
  have h2 : lost n = false := by
    cases hl : lost n with
    | false => rfl
    | true => rw [h n hn' hl] at hb; cases hb
  simp [h1, h2]

theorem agreeB_no {W H : Int} {px l o : List Int} {s : Int} {L n : Nat} (h : o.getD (cenK s n) 0 ≠ -1 → W ≤ o.getD (cenK s n) 0 - 3 * s + cenX s n) : agreeB W H px l o s L n = false := by
  have hv : vThere W H l o s (cenK s n) (cenX s n) = false := by
    unfold vThere
    by_cases e : o.getD (cenK s n) 0 = -1
    · rw [e]; rfl
    · have := h e
      have hx : inB (o.getD (cenK s n) 0 - 3 * s + cenX s n) 0 (W - 1) = false := by
        simp only [inB, Bool.and_eq_false_iff, decide_eq_false_iff_not]; right; omega
      unfold thereB
      rw [hx]; simp
  unfold agreeB
  rw [hv]; simp

theorem cen_is {s : Int} (hs : 3 ≤ s ∧ s ≤ 6) (n : Nat) : ((cenK s n : Nat) : Int) = ((n / 58 : Nat) : Int) * s + s / 2 := by
  unfold cenK
  have := Int.mul_nonneg (show (0 : Int) ≤ ((n / 58 : Nat) : Int) by omega) (show 0 ≤ s by omega)
  rw [Int.toNat_of_nonneg (by omega)]

set_option maxHeartbeats 2000000 in
theorem far_count {W H : Int} {px l o : List Int} {s R : Int} (hs : 3 ≤ s ∧ s ≤ 6) (hR : R = 53 ∨ R = 85) (hW : W ≤ 640) (hlen : (o.length : Int) = R * s)
    (hfar : (∃ n a b : Int, 0 < n ∧ n * (if R = 85 then 9 else 3) < 4 * s * (if R = 85 then 5 else 1) ∧ b - a = n + 2 * (n * n) ∧ ∀ k : Nat, k < o.length → o.getD k 0 ≠ -1 → a ≤ k ∧ (k : Int) ≤ b) ∨
      (∀ k : Nat, k < o.length → o.getD k 0 ≠ -1 → 640 * (if R = 85 then 5 else 1) - (if R = 85 then 9 else 3) * (R * s - 1 - k) ≤ (if R = 85 then 5 else 1) * o.getD k 0) ∨
      (∀ k : Nat, k < o.length → o.getD k 0 ≠ -1 → 640 * (if R = 85 then 5 else 1) - (if R = 85 then 9 else 3) * k ≤ (if R = 85 then 5 else 1) * o.getD k 0)) :
    4 * agreeN W H px l o s (levN R) < 3 * allN (levN R) := by
  have hcen := fun n => cen_is hs n
  have hx : ∀ n, cenX s n = ((n % 58 : Nat) : Int) * s + s / 2 := fun n => rfl
  have fin : ∀ lost : Nat → Bool, decide (4 * leftOver (levN R) lost < 3 * allN (levN R)) = true → (∀ n, n < rowsN (levN R) * 58 → lost n = true → agreeB W H px l o s (levN R) n = false) → 4 * agreeN W H px l o s (levN R) < 3 * allN (levN R) := fun lost h1 h2 => by
    have := agree_le lost h2
    have := of_decide_eq_true h1
    omega
  have h4 : s = 3 ∨ s = 4 ∨ s = 5 ∨ s = 6 := by omega
  rcases hR with rfl | rfl
  · have hL : levN 53 = 4 := rfl
    have hRow : rowsN 4 = 53 := rfl
    rw [hL] at fin ⊢
    rw [hRow] at fin
    simp only [show ¬ ((53 : Int) = 85) by decide, if_false] at hfar
    rcases hfar with ⟨n, a, b, hn0, hn1, hab, hk⟩ | hk | hk
    · have hn7 : n ≤ 7 := by omega
      have hT : b - a < 30 * s := by
        have : n = 1 ∨ n = 2 ∨ n = 3 ∨ n = 4 ∨ n = 5 ∨ n = 6 ∨ n = 7 := by omega
        rcases this with rfl | rfl | rfl | rfl | rfl | rfl | rfl <;> omega
      by_cases ha : 11 * s + s / 2 < a
      · refine fin (lostBy 11) far_by4 fun m hm hlost => agreeB_no fun hne => ?_
        have hr := of_decide_eq_true hlost
        have hc := hcen m
        have := hk (cenK s m) (by rcases h4 with rfl | rfl | rfl | rfl <;> omega) hne
        rcases h4 with rfl | rfl | rfl | rfl <;> omega
      · refine fin (lostFrom 41) far_from4 fun m hm hlost => agreeB_no fun hne => ?_
        have hr := of_decide_eq_true hlost
        have hc := hcen m
        have := hk (cenK s m) (by rcases h4 with rfl | rfl | rfl | rfl <;> omega) hne
        rcases h4 with rfl | rfl | rfl | rfl <;> omega
    · refine fin (lostLine 48 17 36 47) far_bot4 fun m hm hlost => agreeB_no fun hne => ?_
      have hc := hcen m
      have := hk (cenK s m) (by rcases h4 with rfl | rfl | rfl | rfl <;> omega) hne
      rw [hx]
      simp only [lostLine, Bool.or_eq_true, Bool.and_eq_true, beq_iff_eq, decide_eq_true_eq] at hlost
      generalize o.getD (cenK s m) 0 = y at *
      generalize cenK s m = k at *
      rcases h4 with rfl | rfl | rfl | rfl <;> omega
    · refine fin (lostLine 4 17 5 16) far_top4 fun m hm hlost => agreeB_no fun hne => ?_
      have hc := hcen m
      have := hk (cenK s m) (by rcases h4 with rfl | rfl | rfl | rfl <;> omega) hne
      rw [hx]
      simp only [lostLine, Bool.or_eq_true, Bool.and_eq_true, beq_iff_eq, decide_eq_true_eq] at hlost
      generalize o.getD (cenK s m) 0 = y at *
      generalize cenK s m = k at *
      rcases h4 with rfl | rfl | rfl | rfl <;> omega
  · have hL : levN 85 = 2 := rfl
    have hRow : rowsN 2 = 85 := rfl
    rw [hL] at fin ⊢
    rw [hRow] at fin
    simp only [if_true] at hfar
    rcases hfar with ⟨n, a, b, hn0, hn1, hab, hk⟩ | hk | hk
    · have hn7 : n ≤ 13 := by omega
      have hT : b - a < 62 * s := by
        have : n = 1 ∨ n = 2 ∨ n = 3 ∨ n = 4 ∨ n = 5 ∨ n = 6 ∨ n = 7 ∨ n = 8 ∨ n = 9 ∨ n = 10 ∨ n = 11 ∨ n = 12 ∨ n = 13 := by omega
        rcases this with rfl | rfl | rfl | rfl | rfl | rfl | rfl | rfl | rfl | rfl | rfl | rfl | rfl <;> omega
      by_cases ha : 11 * s + s / 2 < a
      · refine fin (lostBy 11) far_by2 fun m hm hlost => agreeB_no fun hne => ?_
        have hr := of_decide_eq_true hlost
        have hc := hcen m
        have := hk (cenK s m) (by rcases h4 with rfl | rfl | rfl | rfl <;> omega) hne
        rcases h4 with rfl | rfl | rfl | rfl <;> omega
      · refine fin (lostFrom 73) far_from2 fun m hm hlost => agreeB_no fun hne => ?_
        have hr := of_decide_eq_true hlost
        have hc := hcen m
        have := hk (cenK s m) (by rcases h4 with rfl | rfl | rfl | rfl <;> omega) hne
        rcases h4 with rfl | rfl | rfl | rfl <;> omega
    · refine fin (lostLine 80 11 57 79) far_bot2 fun m hm hlost => agreeB_no fun hne => ?_
      have hc := hcen m
      have := hk (cenK s m) (by rcases h4 with rfl | rfl | rfl | rfl <;> omega) hne
      rw [hx]
      simp only [lostLine, Bool.or_eq_true, Bool.and_eq_true, beq_iff_eq, decide_eq_true_eq] at hlost
      generalize o.getD (cenK s m) 0 = y at *
      generalize cenK s m = k at *
      rcases h4 with rfl | rfl | rfl | rfl <;> omega
    · refine fin (lostLine 4 11 5 27) far_top2 fun m hm hlost => agreeB_no fun hne => ?_
      have hc := hcen m
      have := hk (cenK s m) (by rcases h4 with rfl | rfl | rfl | rfl <;> omega) hne
      rw [hx]
      simp only [lostLine, Bool.or_eq_true, Bool.and_eq_true, beq_iff_eq, decide_eq_true_eq] at hlost
      generalize o.getD (cenK s m) 0 = y at *
      generalize cenK s m = k at *
      rcases h4 with rfl | rfl | rfl | rfl <;> omega

theorem fillF_get {out : List Int} {k : Nat} (hk : k < out.length) : (fillF out).getD k 0 = fillV out k := by
  simp [fillF, List.getD, hk]

/-- A frame whose lefts are not valid numbers is not accepted. -/
theorem lefts_far {u : Img} (hu : IOk u) {l out : List Int} {s R : Int} (hs : 3 ≤ s ∧ s ≤ 6) (hR : R = 53 ∨ R = 85) (he : EdgesAre u.1 u.2.1 u.2.2 l s R out) (hbad : listOk (fillF out) = false) :
    4 * agreeN u.1 u.2.1 u.2.2 l (fillF out) s (levN R) < 3 * allN (levN R) := by
  obtain ⟨h1, f, hf, h2⟩ := he
  have hW := hu.w2
  have hwin : ∀ k : Nat, k < out.length → 0 ≤ out.getD k 0 → ((f : Int) + s) + 1 ≤ out.getD k 0 ∧ out.getD k 0 ≤ ((f : Int) + s) + 4 * s ∧ out.getD k 0 ≤ 639 := by
    intro k hk h0
    obtain ⟨n, -, -, -, hv⟩ := h2 k hk
    by_cases g : 0 < n ∧ n ≤ (4 * s).toNat ∧ tAt u.1 u.2.1 l (f + s) k n = true
    · rw [if_pos g] at hv
      have := g.2.2
      simp only [tAt, thereB, inB, Bool.and_eq_true, decide_eq_true_eq] at this
      omega
    · rw [if_neg g] at hv; omega
  have hlo : ∀ k : Nat, k < out.length → -1 ≤ out.getD k 0 := fun k hk => ((h2 k hk).bound (by omega)).1
  have hk0 : ∃ k0, k0 < out.length ∧ 641 ≤ fillV out k0 := by
    simp only [listOk, Bool.not_eq_false', List.any_eq_true] at hbad
    obtain ⟨x, hx, hb⟩ := hbad
    simp only [fillF, List.mem_map, List.mem_range] at hx
    obtain ⟨k, hk, rfl⟩ := hx
    refine ⟨k, hk, ?_⟩
    simp only [badN, Bool.or_eq_true, decide_eq_true_eq] at hb
    have : -1 ≤ fillV out k := by
      unfold fillV
      split
      · omega
      · exact fillAt_ge
    omega
  obtain ⟨k0, hk0, h0⟩ := hk0
  refine far_count hs hR (by omega) (by rw [fillF_len]; exact h1) ?_
  have hN : R * s ≤ 510 := by rcases hR with rfl | rfl <;> omega
  have := far_cases (out := out) (F := (f : Int) + s) (N := R * s) (u := if R = 85 then 9 else 3) (v := if R = 85 then 5 else 1) hs h1 hN (by split <;> omega) (by split <;> omega) hwin hlo hk0 h0
  rcases this with ⟨n, a, b, a1, a2, a3, a4⟩ | h | h
  · refine .inl ⟨n, a, b, a1, a2, a3, fun k hk hne => ?_⟩
    rw [fillF_len] at hk
    rw [fillF_get hk] at hne
    exact a4 k hk hne
  · refine .inr (.inl fun k hk hne => ?_)
    rw [fillF_len] at hk
    rw [fillF_get hk] at hne ⊢
    exact h k hk hne
  · refine .inr (.inr fun k hk hne => ?_)
    rw [fillF_len] at hk
    rw [fillF_get hk] at hne ⊢
    exact h k hk hne

open Classical in
/-- What the document accepts of an upright image is what the program accepts. -/
theorem accIs_ref {u : Img} (hu : IOk u) {l out : List Int} {s R : Int} (hc : ColsFor u (some (l, s, R))) (he : EdgesAre u.1 u.2.1 u.2.2 l s R out) :
    AccIs u (if 3 * allN (levN R) ≤ 4 * agreeN u.1 u.2.1 u.2.2 l (fillF out) s (levN R) then some (l, s, R, fillF out) else none) := by
  obtain ⟨-, -, hs, hR⟩ := hc.ok hu
  refine ⟨_, hc, .inr ⟨l, s, R, out, rfl, he, ?_⟩⟩
  by_cases h : listOk (fillF out) = true
  · by_cases g : 3 * allN (levN R) ≤ 4 * agreeN u.1 u.2.1 u.2.2 l (fillF out) s (levN R)
    · rw [if_pos g, if_pos ⟨h, g⟩]
    · rw [if_neg g, if_neg (fun x => g x.2)]
  · have := lefts_far hu hs hR he (by simpa using h)
    rw [if_neg (by omega), if_neg (fun x => h x.1)]

end Go.Proofs.YtnfgedbcfclnmaaGreat

namespace Go.Proofs.YtnfgedbcfclnmaaGreat
open Go.RowKit

def skipOne (ops : Array Oper) (i : Nat) (a : Act) : Act := a.put ((ops[i]?).bind (·.dst)) undef
def skipA (ops : Array Oper) : List Nat → Act → Act
  | [], a => a
  | i :: is, a => skipA ops is (skipOne ops i a)
def skipL : List Nat → Array Bool → Array Bool
  | [], l => l
  | i :: is, l => skipL is (l.setIfInBounds i true)
def skipOk (md : Region.Mode) (ops : Array Oper) : List Nat → Array Bool → Act → Bool
  | [], _, _ => true
  | i :: is, l, a => Region.free md ops l i && (Region.ready md ops l).contains i && ((ops[i]?).map fun o => !(Region.wanted o (yielded ops a.tmps))).getD false && skipOk md ops is (l.setIfInBounds i true) (skipOne ops i a)

theorem wpAnyH_skip {P : Program} {md : Region.Mode} {ops : Array Oper} {Q : Exit → Act → World → Prop} {S : World → Prop} (hs : Region.noSelect ops = true) (hQ : ∀ c a w d, Q (.panic c) (a.put d undef) w → Q (.panic c) a w) :
    ∀ (is : List Nat) (fuel : Nat) (listed : Array Bool) (a : Act) (w : World), skipOk md ops is listed a = true → S w → wpAnyH P md ops Q S fuel (skipL is listed) (skipA ops is a) w → wpAnyH P md ops Q S (fuel + is.length) listed a w
  | [], _, _, _, _, _, _, h => h
  | i :: is, fuel, listed, a, w, hok, hS, h => by
    simp only [skipOk, Bool.and_eq_true] at hok
    obtain ⟨⟨⟨h1, h2⟩, h3⟩, h4⟩ := hok
    cases ho : ops[i]? with
    | none => rw [ho] at h3; cases h3
    | some o =>
      rw [ho] at h3
      have h3' : Region.wanted o (yielded ops a.tmps) = false := by simpa using h3
      have hd : skipOne ops i a = a.put o.dst undef := by simp [skipOne, ho]
      have hrec := wpAnyH_skip hs hQ is fuel (listed.setIfInBounds i true) (skipOne ops i a) w h4 hS h
      rw [hd] at hrec
      exact wpAnyH_take ho hs h1 h2 (fun c a w => hQ c a w o.dst) (Or.inr ⟨h3', rfl⟩) hS hrec

end Go.Proofs.YtnfgedbcfclnmaaGreat

namespace Go.Proofs.YtnfgedbcfclnmaaGreat
open Go.RowKit

def LOfRet (W H : Int) (px l : List Int) (s R : Int) (w : World) (e : Ending) (w' : World) : Prop :=
  ∃ o, EdgesAre W H px l s R o ∧ ∃ v, e = .returned v ∧ w'.ownsRow w.heap.size 3 1 v o.length ((fillF o).map (Value.int .i64)) ∧ Below w.heap.size w w'

structure LoEnv (w : World) (W H : Int) (pv : Value) (wx : World) : Prop where
  below : Below w.heap.size w wx
  img : Blk wx w.heap.size #[.int .i64 W, .int .i64 H, pv] 24
theorem LoEnv.keep {w wx w1 : World} {W H : Int} {pv : Value} (h : LoEnv w W H pv wx) (hb : Below wx.heap.size wx w1) : LoEnv w W H pv w1 :=
  ⟨binto h.below hb, h.img.keep hb h.img.lt⟩

/-- The test of one step: does the next pixel exist, and is it dark? -/
theorem lo_false (W H : Int) (pv : Value) (n s : Int) : True := trivial

set_option maxRecDepth 100000 in
set_option maxHeartbeats 8000000 in
theorem leftsOf_any (W H : Int) (a : Option Addr) (np cp : Nat) (tv : Value) (px l : List Int) (s R : Int) (w : World) (h : ImgOk w W H (.slice a np cp) px) (ht : Reads (Value.int .i64) w tv l) (hW : (l.length : Int) = W) (hok : listOk l = true) (hs : 3 ≤ s ∧ s ≤ 6) (hR : R = 53 ∨ R = 85) :
    Calls Tryz.prog 25 #[.agg #[.int .i64 W, .int .i64 H, .slice a np cp], tv, .int .i64 s, .int .i64 R] w (LOfRet W H px l s R w) := by
  have h1 := h.w1
  have h2 := h.w2
  have h3 := h.h1
  have h4 := h.h2
  subst hW
  obtain ⟨hs1, hs2⟩ := hs
  obtain ⟨N, hN⟩ : ∃ N : Nat, R * s = N := ⟨(R * s).toNat, by rcases hR with rfl | rfl <;> omega⟩
  have hN1 : 159 ≤ N ∧ N ≤ 510 := by rcases hR with rfl | rfl <;> omega
  have hwr : IntKind.i64.wrap (R * s) = (N : Int) := by rw [hN]; exact IntWalk.i64_in _ (by omega)
  obtain ⟨b, off, cap, rfl, hc1, hc2, hb, hc⟩ := ht.some (by omega)
  have HT := Lib.hid ht
  have HC := Lib.hid hc
  have HOK := Lib.hid hok
  have HI := Lib.hid h
  have HN := Lib.hid hN
  clear ht hc hok h hR hN
  go_enter Tryz.func25, Tryz.ntmps25
  go_wp2_with fail
  generalize hW0 : World.alloc w _ = W0
  have E0 : LoEnv w l.length H (.slice a np cp) W0 := by rw [← hW0]; exact ⟨(by repeat (first | (with_reducible exact Below.refl _ _) | (with_reducible assumption) | ((with_reducible refine Below.setCell ?_ ?_ _); rotate_left; (focus (first | omega | (simp; done) | (simp; omega)))) | (with_reducible refine Below.drew ?_) | (with_reducible refine below_drewN ?_ _) | ((with_reducible refine Below.alloc ?_ ?_ _); rotate_left; (focus (first | omega | (simp; done) | (simp; omega)))))), Blk.new _ _ _⟩
  clear hW0
  go_loopw [9] (fun x wr => ∃ f : Nat, x = .int .i64 f ∧ f ≤ l.length ∧ Hid (∀ j, j < f → l.getD j 0 < 0) ∧ LoEnv w l.length H (.slice a np cp) wr) (fun x _ => l.length - (intOf x).toNat)
  case atStart => exact ⟨0, rfl, by omega, fun j hj => by omega, E0⟩
  case round =>
    clear E0
    obtain ⟨f, rfl, hf, hno, E⟩ := hrel
    obtain ⟨wa, rfl⟩ : ∃ wo : World, wo = wr := ⟨_, rfl⟩
    by_cases hgo : f < l.length ∧ l.getD f 0 < 0
    · obtain ⟨hf1, hf2⟩ := hgo
      have c0 := keep E.below (HC.out f _ (getD_some (d := 0) hf1)) hb
      obtain ⟨t, hte⟩ : ∃ t, t = l.getD f 0 := ⟨_, rfl⟩
      rw [← hte] at c0 hf2
      have hno' : ∀ j, j < f + 1 → l.getD j 0 < 0 := fun j hj => by
        rcases Nat.lt_or_eq_of_le (Nat.le_of_lt_succ hj) with g | rfl
        · exact hno.out j g
        · rw [← hte]; exact hf2
      have HNO := Lib.hid hno'
      have hd : (f : Int) < (l.length : Int) := by omega
      clear hte hno' hno
      go_wp2_with fail
      go_roundw
      case rel => exact ⟨f + 1, by go_num, by omega, HNO, E⟩
      case measure => simp [intOf]; omega
    · have hFT : FirstTop l f := ⟨hf, hno.out, fun hlt => by
        rcases Int.lt_or_le (l.getD f 0) 0 with g | g
        · exact absurd ⟨hlt, g⟩ hgo
        · exact g⟩
      have HFT := Lib.hid hFT
      obtain ⟨bs, hbs⟩ : ∃ bs : Int, bs = f + s := ⟨_, rfl⟩
      have hw1 : IntKind.i64.wrap ((f : Int) + s) = bs := by rw [hbs]; exact IntWalk.i64_in _ (by omega)
      have hw2 : IntKind.i64.wrap (4 * s) = 4 * s := IntWalk.i64_in _ (by omega)
      have hbb : 3 ≤ bs ∧ bs ≤ 650 := by omega
      have HBS := Lib.hid hbs
      clear hno hFT hbs
      by_cases hfl : f < l.length
      · obtain ⟨t, hte⟩ : ∃ t, t = l.getD f 0 := ⟨_, rfl⟩
        have c0 := keep E.below (HC.out f _ (getD_some (d := 0) hfl)) hb
        rw [← hte] at c0
        have ht0 : 0 ≤ t := by
          rcases Int.lt_or_le t 0 with g | g
          · exact absurd ⟨hfl, hte ▸ g⟩ hgo
          · exact g
        have hd : (f : Int) < (l.length : Int) := by omega
        clear hte hgo
        go_wp2_with fail
        go_loopw [11, 12] (fun v x wr => ∃ (k : Nat) (o : List Int), x = .int .i64 k ∧ k ≤ N ∧ o.length = k ∧ Hid (∀ j : Nat, j < k → EdgeIs (tAt l.length H l bs j) (dAt l.length H px l bs j) (4 * s).toNat bs (o.getD j 0)) ∧ LoEnv w l.length H (.slice a np cp) wr ∧ wr.ownsRow (w.heap.size + 1) 3 1 v k (o.map (Value.int .i64))) (fun _ x _ => N - (intOf x).toNat)
        case atStart => exact ⟨0, [], rfl, by omega, rfl, fun j hj => by omega, E, World.ownsRow_nil _ _ _ _⟩
        case round =>
          clear E
          obtain ⟨k, o, rfl, hk, hol, hed, E, hown⟩ := hrel
          obtain ⟨wb, rfl⟩ : ∃ wo : World, wo = wr := ⟨_, rfl⟩
          by_cases hkN : k < N
          · have hdk : decide ((k : Int) < (N : Int)) = true := by simp; omega
            have HED : ∀ v, EdgeIs (tAt l.length H l bs k) (dAt l.length H px l bs k) (4 * s).toNat bs v → Hid (∀ j : Nat, j < k + 1 → EdgeIs (tAt l.length H l bs j) (dAt l.length H px l bs j) (4 * s).toNat bs ((o ++ [v]).getD j 0)) := fun v hv j hj => by
              rcases Nat.lt_or_ge j k with g' | g'
              · have := hed.out j g'
                simpa [List.getD, List.getElem?_append_left (show j < o.length by omega)] using this
              · obtain rfl : j = k := by omega
                simpa [List.getD, ← hol] using hol ▸ hv
            have HED := Lib.hid HED
            clear hed
            go_wp2_with fail
            go_loopw [13] (fun x wr => ∃ n : Nat, x = .int .i64 n ∧ (n : Int) ≤ 4 * s + 1 ∧ Hid (∀ m, m < n → tAt l.length H l bs k m = true ∧ dAt l.length H px l bs k m = true) ∧ LoEnv w l.length H (.slice a np cp) wr ∧ Below wb.heap.size wb wr) (fun x _ => (4 * s + 1).toNat - (intOf x).toNat)
            case atStart => exact ⟨0, rfl, by omega, fun m hm => by omega, E, Below.refl _ _⟩
            case round =>
              clear E
              obtain ⟨n, rfl, hn, hall, E, hBw⟩ := hrel
              obtain ⟨wc, rfl⟩ : ∃ wo : World, wo = wr := ⟨_, rfl⟩
              have hwx : IntKind.i64.wrap (bs + (n : Int)) = bs + (n : Int) := IntWalk.i64_in _ (by omega)
              obtain ⟨k0, k1, k2, kf, klt⟩ := E.img.d3
              have HOWN := Lib.hid (own_keep hown hBw)
              have hszc := E.img.lt
              have hTH := fun wz h => there_any l.length H (.slice a np cp) (.slice (some ⟨b, off, none⟩) l.length cap) l (bs + n) k wz h rfl h2 HOK.out ⟨by omega, by omega⟩
              clear hown
              by_cases hn4 : (n : Int) ≤ 4 * s
              · have hd4 : decide ((n : Int) ≤ 4 * s) = true := by simpa using hn4
                cases htt : tAt l.length H l bs k n with
                | true =>
                  rw [show thereB (l.length : Int) H l (bs + n) k = true from htt] at hTH
                  have htt' : thereB (l.length : Int) H l (bs + n) k = true := htt
                  simp only [thereB, inB, Bool.and_eq_true, decide_eq_true_eq] at htt'
                  obtain ⟨⟨⟨g1, g2⟩, g3⟩, g4⟩ := htt'
                  obtain ⟨xn, hxn⟩ : ∃ xn : Nat, bs + (n : Int) = xn := ⟨(bs + n).toNat, by omega⟩
                  have hxl : xn < l.length := by omega
                  have hxl2 : (xn : Int) < (l.length : Int) := by omega
                  have cx := keep E.below (HC.out xn _ (getD_some (d := 0) hxl)) hb
                  obtain ⟨hok1, hok2⟩ := listOk_get HOK.out hxl
                  rw [hxn, Int.toNat_natCast] at g3 g4
                  have hdd : dAt l.length H px l bs k n = darkB l.length H px xn (l.getD xn 0 + k) := by
                    simp only [dAt, darkB]; rw [hxn, Int.toNat_natCast]
                  obtain ⟨tx, htx⟩ : ∃ tx, tx = l.getD xn 0 := ⟨_, rfl⟩
                  rw [← htx] at cx g3 g4 hok1 hok2 hdd
                  have hwt : IntKind.i64.wrap (tx + (k : Int)) = tx + (k : Int) := IntWalk.i64_in _ (by omega)
                  rw [hxn] at hTH
                  replace hwx : IntKind.i64.wrap (bs + (n : Int)) = (xn : Int) := by rw [hwx, hxn]
                  have hbc : b < wc.heap.size := Nat.lt_of_lt_of_le hb E.below.size
                  have HTH := Lib.hid hTH
                  have HXN := Lib.hid hxn
                  have HTT := Lib.hid htt
                  clear hTH htt htx hxn
                  cases hdk : darkB l.length H px xn (tx + k) with
                  | true =>
                    have hall' : ∀ m, m < n + 1 → tAt l.length H l bs k m = true ∧ dAt l.length H px l bs k m = true := fun m hm => by
                      rcases Nat.lt_or_eq_of_le (Nat.le_of_lt_succ hm) with g | rfl
                      · exact hall.out m g
                      · exact ⟨HTT.out, by rw [hdd]; exact hdk⟩
                    have HALL := Lib.hid hall'
                    have HDK := Lib.hid (fun wz hz => dark_is (pv := .slice a np cp) hdk (w := wz) hz)
                    clear hall hall' hdd hdk
                    go_wp2_with fail
                    refine wp_region_held_drew (S := fun w' => w'.cell? ⟨w.heap.size, 0, none⟩ = some (.int .i64 l.length) ∧ w'.cell? ⟨w.heap.size, 1, none⟩ = some (.int .i64 H) ∧ w'.cell? ⟨w.heap.size, 2, none⟩ = some (.slice a np cp) ∧ w'.cell? ⟨b, off + xn, none⟩ = some (.int .i64 tx)) (by kernel_rfl) ⟨k0, k1, k2, cx⟩ (fun hHeld => ?_)
                    (refine wpAnyH_take (i := 0) (v := ?_) (by simp only [List.getElem?_toArray, List.getElem?_cons_succ, List.getElem?_cons_zero]; rfl) (by kernel_rfl) (by kernel_rfl) (by kernel_rfl) ?_ (Or.inl ⟨by rfl, ?_⟩) (by assumption) ?_; rotate_left; (focus (exact fun _ _ _ h => h)); (focus ((intro w hSw); (try dsimp only at hSw); (first | (go_simp; done) | (go_simp; with_reducible rfl)))); (try simp only [Act.put, List.setIfInBounds_toArray, List.set_cons_zero, List.set_cons_succ]))
                    (refine wpAnyH_take (i := 1) (v := ?_) (by simp only [List.getElem?_toArray, List.getElem?_cons_succ, List.getElem?_cons_zero]; rfl) (by kernel_rfl) (by kernel_rfl) (by kernel_rfl) ?_ (Or.inl ⟨by rfl, ?_⟩) (by assumption) ?_; rotate_left; (focus (exact fun _ _ _ h => h)); (focus ((intro w hSw); (try dsimp only at hSw); (first | (go_simp; done) | (go_simp; with_reducible rfl)))); (try simp only [Act.put, List.setIfInBounds_toArray, List.set_cons_zero, List.set_cons_succ]))
                    (refine wpAnyH_take (i := 2) (v := ?_) (by simp only [List.getElem?_toArray, List.getElem?_cons_succ, List.getElem?_cons_zero]; rfl) (by kernel_rfl) (by kernel_rfl) (by kernel_rfl) ?_ (Or.inl ⟨by rfl, ?_⟩) (by assumption) ?_; rotate_left; (focus (exact fun _ _ _ h => h)); (focus ((intro w hSw); (try dsimp only at hSw); (first | (go_simp; done) | (go_simp; with_reducible rfl)))); (try simp only [Act.put, List.setIfInBounds_toArray, List.set_cons_zero, List.set_cons_succ]))
                    (refine wpAnyH_take (i := 3) (v := ?_) (by simp only [List.getElem?_toArray, List.getElem?_cons_succ, List.getElem?_cons_zero]; rfl) (by kernel_rfl) (by kernel_rfl) (by kernel_rfl) ?_ (Or.inl ⟨by rfl, ?_⟩) (by assumption) ?_; rotate_left; (focus (exact fun _ _ _ h => h)); (focus ((intro w hSw); (try dsimp only at hSw); (first | (go_simp; done) | (go_simp; with_reducible rfl)))); (try simp only [Act.put, List.setIfInBounds_toArray, List.set_cons_zero, List.set_cons_succ]))
                    (refine wpAnyH_take (i := 4) (v := ?_) (by simp only [List.getElem?_toArray, List.getElem?_cons_succ, List.getElem?_cons_zero]; rfl) (by kernel_rfl) (by kernel_rfl) (by kernel_rfl) ?_ (Or.inl ⟨by rfl, ?_⟩) (by assumption) ?_; rotate_left; (focus (exact fun _ _ _ h => h)); (focus ((intro w hSw); (try dsimp only at hSw); (first | (go_simp; done) | (go_simp; with_reducible rfl)))); (try simp only [Act.put, List.setIfInBounds_toArray, List.set_cons_zero, List.set_cons_succ]))
                    (refine wpAnyH_take (i := 5) (v := ?_) (by simp only [List.getElem?_toArray, List.getElem?_cons_succ, List.getElem?_cons_zero]; rfl) (by kernel_rfl) (by kernel_rfl) (by kernel_rfl) ?_ (Or.inl ⟨by rfl, ?_⟩) (by assumption) ?_; rotate_left; (focus (exact fun _ _ _ h => h)); (focus ((intro w hSw); (try dsimp only at hSw); (first | (go_simp; done) | (go_simp; with_reducible rfl)))); (try simp only [Act.put, List.setIfInBounds_toArray, List.set_cons_zero, List.set_cons_succ]))
                    (refine wpAnyH_take (i := 6) (v := ?_) (by simp only [List.getElem?_toArray, List.getElem?_cons_succ, List.getElem?_cons_zero]; rfl) (by kernel_rfl) (by kernel_rfl) (by kernel_rfl) ?_ (Or.inl ⟨by rfl, ?_⟩) (by assumption) ?_; rotate_left; (focus (exact fun _ _ _ h => h)); (focus ((intro w hSw); (try dsimp only at hSw); (first | (go_simp; done) | (go_simp; with_reducible rfl)))); (try simp only [Act.put, List.setIfInBounds_toArray, List.set_cons_zero, List.set_cons_succ]))
                    (refine wpAnyH_take (i := 7) (v := ?_) (by simp only [List.getElem?_toArray, List.getElem?_cons_succ, List.getElem?_cons_zero]; rfl) (by kernel_rfl) (by kernel_rfl) (by kernel_rfl) ?_ (Or.inl ⟨by rfl, ?_⟩) (by assumption) ?_; rotate_left; (focus (exact fun _ _ _ h => h)); (focus ((intro w hSw); (try dsimp only at hSw); (first | (go_simp; done) | (go_simp; with_reducible rfl)))); (try simp only [Act.put, List.setIfInBounds_toArray, List.set_cons_zero, List.set_cons_succ]))
                    (refine wpAnyH_take (i := 8) (v := ?_) (by simp only [List.getElem?_toArray, List.getElem?_cons_succ, List.getElem?_cons_zero]; rfl) (by kernel_rfl) (by kernel_rfl) (by kernel_rfl) ?_ (Or.inl ⟨by rfl, ?_⟩) (by assumption) ?_; rotate_left; (focus (exact fun _ _ _ h => h)); (focus ((intro w hSw); (try dsimp only at hSw); (first | (go_simp; done) | (go_simp; with_reducible rfl)))); (try simp only [Act.put, List.setIfInBounds_toArray, List.set_cons_zero, List.set_cons_succ]))
                    (refine wpAnyH_take (i := 9) (v := ?_) (by simp only [List.getElem?_toArray, List.getElem?_cons_succ, List.getElem?_cons_zero]; rfl) (by kernel_rfl) (by kernel_rfl) (by kernel_rfl) ?_ (Or.inl ⟨by rfl, ?_⟩) (by assumption) ?_; rotate_left; (focus (exact fun _ _ _ h => h)); (focus ((intro w hSw); (try dsimp only at hSw); (first | (go_simp; done) | (go_simp; with_reducible rfl)))); (try simp only [Act.put, List.setIfInBounds_toArray, List.set_cons_zero, List.set_cons_succ]))
                    (refine wpAnyH_take (i := 10) (v := ?_) (by simp only [List.getElem?_toArray, List.getElem?_cons_succ, List.getElem?_cons_zero]; rfl) (by kernel_rfl) (by kernel_rfl) (by kernel_rfl) ?_ (Or.inl ⟨by rfl, ?_⟩) (by assumption) ?_; rotate_left; (focus (exact fun _ _ _ h => h)); (focus ((intro w hSw); (try dsimp only at hSw); (first | (go_simp; done) | (go_simp; with_reducible rfl)))); (try simp only [Act.put, List.setIfInBounds_toArray, List.set_cons_zero, List.set_cons_succ]))
                    refine wpAnyH_ready (rs := [11]) (by kernel_rfl) (by simp) ?_
                    refine AllReadyH.cons (by simp only [List.getElem?_toArray, List.getElem?_cons_succ, List.getElem?_cons_zero]; rfl) (fun K hK => ?_) AllReadyH.nil
                    go_simp
                    refine (HTH.out _ (HT.out.below E.below.drew)).mono ?_
                    rintro e wf ⟨rfl, hbf⟩
                    dsimp only
                    refine hK.out _ _ ⟨keep (w := wc.drew) hbf k0 klt, keep (w := wc.drew) hbf k1 klt, keep (w := wc.drew) hbf k2 klt, keep (w := wc.drew) hbf cx hbc⟩ (fun hHeld2 => ?_)
                    clear hK K hHeld
                    try simp only [Act.put, List.setIfInBounds_toArray, List.set_cons_zero, List.set_cons_succ]
                    (refine wpAnyH_take (i := 12) (v := ?_) (by simp only [List.getElem?_toArray, List.getElem?_cons_succ, List.getElem?_cons_zero]; rfl) (by kernel_rfl) (by kernel_rfl) (by kernel_rfl) ?_ (Or.inl ⟨by rfl, ?_⟩) (by assumption) ?_; rotate_left; (focus (exact fun _ _ _ h => h)); (focus ((intro w hSw); (try dsimp only at hSw); (first | (go_simp; done) | (go_simp; with_reducible rfl)))); (try simp only [Act.put, List.setIfInBounds_toArray, List.set_cons_zero, List.set_cons_succ]))
                    (refine wpAnyH_take (i := 13) (v := ?_) (by simp only [List.getElem?_toArray, List.getElem?_cons_succ, List.getElem?_cons_zero]; rfl) (by kernel_rfl) (by kernel_rfl) (by kernel_rfl) ?_ (Or.inl ⟨by rfl, ?_⟩) (by assumption) ?_; rotate_left; (focus (exact fun _ _ _ h => h)); (focus ((intro w hSw); (try dsimp only at hSw); (first | (go_simp; done) | (go_simp; with_reducible rfl)))); (try simp only [Act.put, List.setIfInBounds_toArray, List.set_cons_zero, List.set_cons_succ]))
                    (refine wpAnyH_take (i := 14) (v := ?_) (by simp only [List.getElem?_toArray, List.getElem?_cons_succ, List.getElem?_cons_zero]; rfl) (by kernel_rfl) (by kernel_rfl) (by kernel_rfl) ?_ (Or.inl ⟨by rfl, ?_⟩) (by assumption) ?_; rotate_left; (focus (exact fun _ _ _ h => h)); (focus ((intro w hSw); (try dsimp only at hSw); (first | (go_simp; done) | (go_simp; with_reducible rfl)))); (try simp only [Act.put, List.setIfInBounds_toArray, List.set_cons_zero, List.set_cons_succ]))
                    (refine wpAnyH_take (i := 15) (v := ?_) (by simp only [List.getElem?_toArray, List.getElem?_cons_succ, List.getElem?_cons_zero]; rfl) (by kernel_rfl) (by kernel_rfl) (by kernel_rfl) ?_ (Or.inl ⟨by rfl, ?_⟩) (by assumption) ?_; rotate_left; (focus (exact fun _ _ _ h => h)); (focus ((intro w hSw); (try dsimp only at hSw); (first | (go_simp; done) | (go_simp; with_reducible rfl)))); (try simp only [Act.put, List.setIfInBounds_toArray, List.set_cons_zero, List.set_cons_succ]))
                    (refine wpAnyH_take (i := 16) (v := ?_) (by simp only [List.getElem?_toArray, List.getElem?_cons_succ, List.getElem?_cons_zero]; rfl) (by kernel_rfl) (by kernel_rfl) (by kernel_rfl) ?_ (Or.inl ⟨by rfl, ?_⟩) (by assumption) ?_; rotate_left; (focus (exact fun _ _ _ h => h)); (focus ((intro w hSw); (try dsimp only at hSw); (first | (go_simp; done) | (go_simp; with_reducible rfl)))); (try simp only [Act.put, List.setIfInBounds_toArray, List.set_cons_zero, List.set_cons_succ]))
                    (refine wpAnyH_take (i := 17) (v := ?_) (by simp only [List.getElem?_toArray, List.getElem?_cons_succ, List.getElem?_cons_zero]; rfl) (by kernel_rfl) (by kernel_rfl) (by kernel_rfl) ?_ (Or.inl ⟨by rfl, ?_⟩) (by assumption) ?_; rotate_left; (focus (exact fun _ _ _ h => h)); (focus ((intro w hSw); (try dsimp only at hSw); (first | (go_simp; done) | (go_simp; with_reducible rfl)))); (try simp only [Act.put, List.setIfInBounds_toArray, List.set_cons_zero, List.set_cons_succ]))
                    (refine wpAnyH_take (i := 18) (v := ?_) (by simp only [List.getElem?_toArray, List.getElem?_cons_succ, List.getElem?_cons_zero]; rfl) (by kernel_rfl) (by kernel_rfl) (by kernel_rfl) ?_ (Or.inl ⟨by rfl, ?_⟩) (by assumption) ?_; rotate_left; (focus (exact fun _ _ _ h => h)); (focus ((intro w hSw); (try dsimp only at hSw); (first | (go_simp; done) | (go_simp; with_reducible rfl)))); (try simp only [Act.put, List.setIfInBounds_toArray, List.set_cons_zero, List.set_cons_succ]))
                    (refine wpAnyH_take (i := 19) (v := ?_) (by simp only [List.getElem?_toArray, List.getElem?_cons_succ, List.getElem?_cons_zero]; rfl) (by kernel_rfl) (by kernel_rfl) (by kernel_rfl) ?_ (Or.inl ⟨by rfl, ?_⟩) (by assumption) ?_; rotate_left; (focus (exact fun _ _ _ h => h)); (focus ((intro w hSw); (try dsimp only at hSw); (first | (go_simp; done) | (go_simp; with_reducible rfl)))); (try simp only [Act.put, List.setIfInBounds_toArray, List.set_cons_zero, List.set_cons_succ]))
                    (refine wpAnyH_take (i := 20) (v := ?_) (by simp only [List.getElem?_toArray, List.getElem?_cons_succ, List.getElem?_cons_zero]; rfl) (by kernel_rfl) (by kernel_rfl) (by kernel_rfl) ?_ (Or.inl ⟨by rfl, ?_⟩) (by assumption) ?_; rotate_left; (focus (exact fun _ _ _ h => h)); (focus ((intro w hSw); (try dsimp only at hSw); (first | (go_simp; done) | (go_simp; with_reducible rfl)))); (try simp only [Act.put, List.setIfInBounds_toArray, List.set_cons_zero, List.set_cons_succ]))
                    (refine wpAnyH_take (i := 21) (v := ?_) (by simp only [List.getElem?_toArray, List.getElem?_cons_succ, List.getElem?_cons_zero]; rfl) (by kernel_rfl) (by kernel_rfl) (by kernel_rfl) ?_ (Or.inl ⟨by rfl, ?_⟩) (by assumption) ?_; rotate_left; (focus (exact fun _ _ _ h => h)); (focus ((intro w hSw); (try dsimp only at hSw); (first | (go_simp; done) | (go_simp; with_reducible rfl)))); (try simp only [Act.put, List.setIfInBounds_toArray, List.set_cons_zero, List.set_cons_succ]))
                    (refine wpAnyH_take (i := 22) (v := ?_) (by simp only [List.getElem?_toArray, List.getElem?_cons_succ, List.getElem?_cons_zero]; rfl) (by kernel_rfl) (by kernel_rfl) (by kernel_rfl) ?_ (Or.inl ⟨by rfl, ?_⟩) (by assumption) ?_; rotate_left; (focus (exact fun _ _ _ h => h)); (focus ((intro w hSw); (try dsimp only at hSw); (first | (go_simp; done) | (go_simp; with_reducible rfl)))); (try simp only [Act.put, List.setIfInBounds_toArray, List.set_cons_zero, List.set_cons_succ]))
                    (refine wpAnyH_take (i := 23) (v := ?_) (by simp only [List.getElem?_toArray, List.getElem?_cons_succ, List.getElem?_cons_zero]; rfl) (by kernel_rfl) (by kernel_rfl) (by kernel_rfl) ?_ (Or.inl ⟨by rfl, ?_⟩) (by assumption) ?_; rotate_left; (focus (exact fun _ _ _ h => h)); (focus ((intro w hSw); (try dsimp only at hSw); (first | (go_simp; done) | (go_simp; with_reducible rfl)))); (try simp only [Act.put, List.setIfInBounds_toArray, List.set_cons_zero, List.set_cons_succ]))
                    (refine wpAnyH_take (i := 24) (v := ?_) (by simp only [List.getElem?_toArray, List.getElem?_cons_succ, List.getElem?_cons_zero]; rfl) (by kernel_rfl) (by kernel_rfl) (by kernel_rfl) ?_ (Or.inl ⟨by rfl, ?_⟩) (by assumption) ?_; rotate_left; (focus (exact fun _ _ _ h => h)); (focus ((intro w hSw); (try dsimp only at hSw); (first | (go_simp; done) | (go_simp; with_reducible rfl)))); (try simp only [Act.put, List.setIfInBounds_toArray, List.set_cons_zero, List.set_cons_succ]))
                    (refine wpAnyH_take (i := 25) (v := ?_) (by simp only [List.getElem?_toArray, List.getElem?_cons_succ, List.getElem?_cons_zero]; rfl) (by kernel_rfl) (by kernel_rfl) (by kernel_rfl) ?_ (Or.inl ⟨by rfl, ?_⟩) (by assumption) ?_; rotate_left; (focus (exact fun _ _ _ h => h)); (focus ((intro w hSw); (try dsimp only at hSw); (first | (go_simp; done) | (go_simp; with_reducible rfl)))); (try simp only [Act.put, List.setIfInBounds_toArray, List.set_cons_zero, List.set_cons_succ]))
                    refine wpAnyH_ready (rs := [26]) (by kernel_rfl) (by simp) ?_
                    refine AllReadyH.cons (by simp only [List.getElem?_toArray, List.getElem?_cons_succ, List.getElem?_cons_zero]; rfl) (fun K hK => ?_) AllReadyH.nil
                    go_simp
                    refine (HDK.out _ (HI.out.below (binto E.below.drew hbf))).mono ?_
                    rintro e wg ⟨rfl, hbg⟩
                    have hbfg := binto hbf hbg
                    dsimp only
                    refine hK.out _ _ ⟨keep (w := wc.drew) hbfg k0 klt, keep (w := wc.drew) hbfg k1 klt, keep (w := wc.drew) hbfg k2 klt, keep (w := wc.drew) hbfg cx hbc⟩ (fun hHeld3 => ?_)
                    clear hK K hHeld2
                    try simp only [Act.put, List.setIfInBounds_toArray, List.set_cons_zero, List.set_cons_succ]
                    (refine wpAnyH_take (i := 27) (v := ?_) (by simp only [List.getElem?_toArray, List.getElem?_cons_succ, List.getElem?_cons_zero]; rfl) (by kernel_rfl) (by kernel_rfl) (by kernel_rfl) ?_ (Or.inl ⟨by rfl, ?_⟩) (by assumption) ?_; rotate_left; (focus (exact fun _ _ _ h => h)); (focus ((intro w hSw); (try dsimp only at hSw); (first | (go_simp; done) | (go_simp; with_reducible rfl)))); (try simp only [Act.put, List.setIfInBounds_toArray, List.set_cons_zero, List.set_cons_succ]))
                    refine wpAnyH_done (by kernel_rfl) ?_ _
                    have E' : LoEnv w l.length H (.slice a np cp) wg := E.keep ((Below.refl wc.heap.size wc).drew.trans hbfg)
                    have hBw' : Below wb.heap.size wb wg := binto hBw ((Below.refl wc.heap.size wc).drew.trans hbfg)
                    clear hHeld3 hbf hbg hbfg
                    go_wp2_with fail
                    go_roundw
                    case rel => exact ⟨n + 1, by go_num, by omega, HALL, E', hBw'⟩
                    case measure => simp [intOf]; omega
                  | false =>
                    have HDK := Lib.hid (fun wz hz => dark_is (pv := .slice a np cp) hdk (w := wz) hz)
                    have hdf : dAt l.length H px l bs k n = false := by rw [hdd]; exact hdk
                    have HDF := Lib.hid hdf
                    have HALL := Lib.hid hall
                    clear hall hdd hdk hdf
                    go_wp2_with fail
                    refine wp_region_held_drew (S := fun w' => w'.cell? ⟨w.heap.size, 0, none⟩ = some (.int .i64 l.length) ∧ w'.cell? ⟨w.heap.size, 1, none⟩ = some (.int .i64 H) ∧ w'.cell? ⟨w.heap.size, 2, none⟩ = some (.slice a np cp) ∧ w'.cell? ⟨b, off + xn, none⟩ = some (.int .i64 tx)) (by kernel_rfl) ⟨k0, k1, k2, cx⟩ (fun hHeld => ?_)
                    (refine wpAnyH_take (i := 0) (v := ?_) (by simp only [List.getElem?_toArray, List.getElem?_cons_succ, List.getElem?_cons_zero]; rfl) (by kernel_rfl) (by kernel_rfl) (by kernel_rfl) ?_ (Or.inl ⟨by rfl, ?_⟩) (by assumption) ?_; rotate_left; (focus (exact fun _ _ _ h => h)); (focus ((intro w hSw); (try dsimp only at hSw); (first | (go_simp; done) | (go_simp; with_reducible rfl)))); (try simp only [Act.put, List.setIfInBounds_toArray, List.set_cons_zero, List.set_cons_succ]))
                    (refine wpAnyH_take (i := 1) (v := ?_) (by simp only [List.getElem?_toArray, List.getElem?_cons_succ, List.getElem?_cons_zero]; rfl) (by kernel_rfl) (by kernel_rfl) (by kernel_rfl) ?_ (Or.inl ⟨by rfl, ?_⟩) (by assumption) ?_; rotate_left; (focus (exact fun _ _ _ h => h)); (focus ((intro w hSw); (try dsimp only at hSw); (first | (go_simp; done) | (go_simp; with_reducible rfl)))); (try simp only [Act.put, List.setIfInBounds_toArray, List.set_cons_zero, List.set_cons_succ]))
                    (refine wpAnyH_take (i := 2) (v := ?_) (by simp only [List.getElem?_toArray, List.getElem?_cons_succ, List.getElem?_cons_zero]; rfl) (by kernel_rfl) (by kernel_rfl) (by kernel_rfl) ?_ (Or.inl ⟨by rfl, ?_⟩) (by assumption) ?_; rotate_left; (focus (exact fun _ _ _ h => h)); (focus ((intro w hSw); (try dsimp only at hSw); (first | (go_simp; done) | (go_simp; with_reducible rfl)))); (try simp only [Act.put, List.setIfInBounds_toArray, List.set_cons_zero, List.set_cons_succ]))
                    (refine wpAnyH_take (i := 3) (v := ?_) (by simp only [List.getElem?_toArray, List.getElem?_cons_succ, List.getElem?_cons_zero]; rfl) (by kernel_rfl) (by kernel_rfl) (by kernel_rfl) ?_ (Or.inl ⟨by rfl, ?_⟩) (by assumption) ?_; rotate_left; (focus (exact fun _ _ _ h => h)); (focus ((intro w hSw); (try dsimp only at hSw); (first | (go_simp; done) | (go_simp; with_reducible rfl)))); (try simp only [Act.put, List.setIfInBounds_toArray, List.set_cons_zero, List.set_cons_succ]))
                    (refine wpAnyH_take (i := 4) (v := ?_) (by simp only [List.getElem?_toArray, List.getElem?_cons_succ, List.getElem?_cons_zero]; rfl) (by kernel_rfl) (by kernel_rfl) (by kernel_rfl) ?_ (Or.inl ⟨by rfl, ?_⟩) (by assumption) ?_; rotate_left; (focus (exact fun _ _ _ h => h)); (focus ((intro w hSw); (try dsimp only at hSw); (first | (go_simp; done) | (go_simp; with_reducible rfl)))); (try simp only [Act.put, List.setIfInBounds_toArray, List.set_cons_zero, List.set_cons_succ]))
                    (refine wpAnyH_take (i := 5) (v := ?_) (by simp only [List.getElem?_toArray, List.getElem?_cons_succ, List.getElem?_cons_zero]; rfl) (by kernel_rfl) (by kernel_rfl) (by kernel_rfl) ?_ (Or.inl ⟨by rfl, ?_⟩) (by assumption) ?_; rotate_left; (focus (exact fun _ _ _ h => h)); (focus ((intro w hSw); (try dsimp only at hSw); (first | (go_simp; done) | (go_simp; with_reducible rfl)))); (try simp only [Act.put, List.setIfInBounds_toArray, List.set_cons_zero, List.set_cons_succ]))
                    (refine wpAnyH_take (i := 6) (v := ?_) (by simp only [List.getElem?_toArray, List.getElem?_cons_succ, List.getElem?_cons_zero]; rfl) (by kernel_rfl) (by kernel_rfl) (by kernel_rfl) ?_ (Or.inl ⟨by rfl, ?_⟩) (by assumption) ?_; rotate_left; (focus (exact fun _ _ _ h => h)); (focus ((intro w hSw); (try dsimp only at hSw); (first | (go_simp; done) | (go_simp; with_reducible rfl)))); (try simp only [Act.put, List.setIfInBounds_toArray, List.set_cons_zero, List.set_cons_succ]))
                    (refine wpAnyH_take (i := 7) (v := ?_) (by simp only [List.getElem?_toArray, List.getElem?_cons_succ, List.getElem?_cons_zero]; rfl) (by kernel_rfl) (by kernel_rfl) (by kernel_rfl) ?_ (Or.inl ⟨by rfl, ?_⟩) (by assumption) ?_; rotate_left; (focus (exact fun _ _ _ h => h)); (focus ((intro w hSw); (try dsimp only at hSw); (first | (go_simp; done) | (go_simp; with_reducible rfl)))); (try simp only [Act.put, List.setIfInBounds_toArray, List.set_cons_zero, List.set_cons_succ]))
                    (refine wpAnyH_take (i := 8) (v := ?_) (by simp only [List.getElem?_toArray, List.getElem?_cons_succ, List.getElem?_cons_zero]; rfl) (by kernel_rfl) (by kernel_rfl) (by kernel_rfl) ?_ (Or.inl ⟨by rfl, ?_⟩) (by assumption) ?_; rotate_left; (focus (exact fun _ _ _ h => h)); (focus ((intro w hSw); (try dsimp only at hSw); (first | (go_simp; done) | (go_simp; with_reducible rfl)))); (try simp only [Act.put, List.setIfInBounds_toArray, List.set_cons_zero, List.set_cons_succ]))
                    (refine wpAnyH_take (i := 9) (v := ?_) (by simp only [List.getElem?_toArray, List.getElem?_cons_succ, List.getElem?_cons_zero]; rfl) (by kernel_rfl) (by kernel_rfl) (by kernel_rfl) ?_ (Or.inl ⟨by rfl, ?_⟩) (by assumption) ?_; rotate_left; (focus (exact fun _ _ _ h => h)); (focus ((intro w hSw); (try dsimp only at hSw); (first | (go_simp; done) | (go_simp; with_reducible rfl)))); (try simp only [Act.put, List.setIfInBounds_toArray, List.set_cons_zero, List.set_cons_succ]))
                    (refine wpAnyH_take (i := 10) (v := ?_) (by simp only [List.getElem?_toArray, List.getElem?_cons_succ, List.getElem?_cons_zero]; rfl) (by kernel_rfl) (by kernel_rfl) (by kernel_rfl) ?_ (Or.inl ⟨by rfl, ?_⟩) (by assumption) ?_; rotate_left; (focus (exact fun _ _ _ h => h)); (focus ((intro w hSw); (try dsimp only at hSw); (first | (go_simp; done) | (go_simp; with_reducible rfl)))); (try simp only [Act.put, List.setIfInBounds_toArray, List.set_cons_zero, List.set_cons_succ]))
                    refine wpAnyH_ready (rs := [11]) (by kernel_rfl) (by simp) ?_
                    refine AllReadyH.cons (by simp only [List.getElem?_toArray, List.getElem?_cons_succ, List.getElem?_cons_zero]; rfl) (fun K hK => ?_) AllReadyH.nil
                    go_simp
                    refine (HTH.out _ (HT.out.below E.below.drew)).mono ?_
                    rintro e wf ⟨rfl, hbf⟩
                    dsimp only
                    refine hK.out _ _ ⟨keep (w := wc.drew) hbf k0 klt, keep (w := wc.drew) hbf k1 klt, keep (w := wc.drew) hbf k2 klt, keep (w := wc.drew) hbf cx hbc⟩ (fun hHeld2 => ?_)
                    clear hK K hHeld
                    try simp only [Act.put, List.setIfInBounds_toArray, List.set_cons_zero, List.set_cons_succ]
                    (refine wpAnyH_take (i := 12) (v := ?_) (by simp only [List.getElem?_toArray, List.getElem?_cons_succ, List.getElem?_cons_zero]; rfl) (by kernel_rfl) (by kernel_rfl) (by kernel_rfl) ?_ (Or.inl ⟨by rfl, ?_⟩) (by assumption) ?_; rotate_left; (focus (exact fun _ _ _ h => h)); (focus ((intro w hSw); (try dsimp only at hSw); (first | (go_simp; done) | (go_simp; with_reducible rfl)))); (try simp only [Act.put, List.setIfInBounds_toArray, List.set_cons_zero, List.set_cons_succ]))
                    (refine wpAnyH_take (i := 13) (v := ?_) (by simp only [List.getElem?_toArray, List.getElem?_cons_succ, List.getElem?_cons_zero]; rfl) (by kernel_rfl) (by kernel_rfl) (by kernel_rfl) ?_ (Or.inl ⟨by rfl, ?_⟩) (by assumption) ?_; rotate_left; (focus (exact fun _ _ _ h => h)); (focus ((intro w hSw); (try dsimp only at hSw); (first | (go_simp; done) | (go_simp; with_reducible rfl)))); (try simp only [Act.put, List.setIfInBounds_toArray, List.set_cons_zero, List.set_cons_succ]))
                    (refine wpAnyH_take (i := 14) (v := ?_) (by simp only [List.getElem?_toArray, List.getElem?_cons_succ, List.getElem?_cons_zero]; rfl) (by kernel_rfl) (by kernel_rfl) (by kernel_rfl) ?_ (Or.inl ⟨by rfl, ?_⟩) (by assumption) ?_; rotate_left; (focus (exact fun _ _ _ h => h)); (focus ((intro w hSw); (try dsimp only at hSw); (first | (go_simp; done) | (go_simp; with_reducible rfl)))); (try simp only [Act.put, List.setIfInBounds_toArray, List.set_cons_zero, List.set_cons_succ]))
                    (refine wpAnyH_take (i := 15) (v := ?_) (by simp only [List.getElem?_toArray, List.getElem?_cons_succ, List.getElem?_cons_zero]; rfl) (by kernel_rfl) (by kernel_rfl) (by kernel_rfl) ?_ (Or.inl ⟨by rfl, ?_⟩) (by assumption) ?_; rotate_left; (focus (exact fun _ _ _ h => h)); (focus ((intro w hSw); (try dsimp only at hSw); (first | (go_simp; done) | (go_simp; with_reducible rfl)))); (try simp only [Act.put, List.setIfInBounds_toArray, List.set_cons_zero, List.set_cons_succ]))
                    (refine wpAnyH_take (i := 16) (v := ?_) (by simp only [List.getElem?_toArray, List.getElem?_cons_succ, List.getElem?_cons_zero]; rfl) (by kernel_rfl) (by kernel_rfl) (by kernel_rfl) ?_ (Or.inl ⟨by rfl, ?_⟩) (by assumption) ?_; rotate_left; (focus (exact fun _ _ _ h => h)); (focus ((intro w hSw); (try dsimp only at hSw); (first | (go_simp; done) | (go_simp; with_reducible rfl)))); (try simp only [Act.put, List.setIfInBounds_toArray, List.set_cons_zero, List.set_cons_succ]))
                    (refine wpAnyH_take (i := 17) (v := ?_) (by simp only [List.getElem?_toArray, List.getElem?_cons_succ, List.getElem?_cons_zero]; rfl) (by kernel_rfl) (by kernel_rfl) (by kernel_rfl) ?_ (Or.inl ⟨by rfl, ?_⟩) (by assumption) ?_; rotate_left; (focus (exact fun _ _ _ h => h)); (focus ((intro w hSw); (try dsimp only at hSw); (first | (go_simp; done) | (go_simp; with_reducible rfl)))); (try simp only [Act.put, List.setIfInBounds_toArray, List.set_cons_zero, List.set_cons_succ]))
                    (refine wpAnyH_take (i := 18) (v := ?_) (by simp only [List.getElem?_toArray, List.getElem?_cons_succ, List.getElem?_cons_zero]; rfl) (by kernel_rfl) (by kernel_rfl) (by kernel_rfl) ?_ (Or.inl ⟨by rfl, ?_⟩) (by assumption) ?_; rotate_left; (focus (exact fun _ _ _ h => h)); (focus ((intro w hSw); (try dsimp only at hSw); (first | (go_simp; done) | (go_simp; with_reducible rfl)))); (try simp only [Act.put, List.setIfInBounds_toArray, List.set_cons_zero, List.set_cons_succ]))
                    (refine wpAnyH_take (i := 19) (v := ?_) (by simp only [List.getElem?_toArray, List.getElem?_cons_succ, List.getElem?_cons_zero]; rfl) (by kernel_rfl) (by kernel_rfl) (by kernel_rfl) ?_ (Or.inl ⟨by rfl, ?_⟩) (by assumption) ?_; rotate_left; (focus (exact fun _ _ _ h => h)); (focus ((intro w hSw); (try dsimp only at hSw); (first | (go_simp; done) | (go_simp; with_reducible rfl)))); (try simp only [Act.put, List.setIfInBounds_toArray, List.set_cons_zero, List.set_cons_succ]))
                    (refine wpAnyH_take (i := 20) (v := ?_) (by simp only [List.getElem?_toArray, List.getElem?_cons_succ, List.getElem?_cons_zero]; rfl) (by kernel_rfl) (by kernel_rfl) (by kernel_rfl) ?_ (Or.inl ⟨by rfl, ?_⟩) (by assumption) ?_; rotate_left; (focus (exact fun _ _ _ h => h)); (focus ((intro w hSw); (try dsimp only at hSw); (first | (go_simp; done) | (go_simp; with_reducible rfl)))); (try simp only [Act.put, List.setIfInBounds_toArray, List.set_cons_zero, List.set_cons_succ]))
                    (refine wpAnyH_take (i := 21) (v := ?_) (by simp only [List.getElem?_toArray, List.getElem?_cons_succ, List.getElem?_cons_zero]; rfl) (by kernel_rfl) (by kernel_rfl) (by kernel_rfl) ?_ (Or.inl ⟨by rfl, ?_⟩) (by assumption) ?_; rotate_left; (focus (exact fun _ _ _ h => h)); (focus ((intro w hSw); (try dsimp only at hSw); (first | (go_simp; done) | (go_simp; with_reducible rfl)))); (try simp only [Act.put, List.setIfInBounds_toArray, List.set_cons_zero, List.set_cons_succ]))
                    (refine wpAnyH_take (i := 22) (v := ?_) (by simp only [List.getElem?_toArray, List.getElem?_cons_succ, List.getElem?_cons_zero]; rfl) (by kernel_rfl) (by kernel_rfl) (by kernel_rfl) ?_ (Or.inl ⟨by rfl, ?_⟩) (by assumption) ?_; rotate_left; (focus (exact fun _ _ _ h => h)); (focus ((intro w hSw); (try dsimp only at hSw); (first | (go_simp; done) | (go_simp; with_reducible rfl)))); (try simp only [Act.put, List.setIfInBounds_toArray, List.set_cons_zero, List.set_cons_succ]))
                    (refine wpAnyH_take (i := 23) (v := ?_) (by simp only [List.getElem?_toArray, List.getElem?_cons_succ, List.getElem?_cons_zero]; rfl) (by kernel_rfl) (by kernel_rfl) (by kernel_rfl) ?_ (Or.inl ⟨by rfl, ?_⟩) (by assumption) ?_; rotate_left; (focus (exact fun _ _ _ h => h)); (focus ((intro w hSw); (try dsimp only at hSw); (first | (go_simp; done) | (go_simp; with_reducible rfl)))); (try simp only [Act.put, List.setIfInBounds_toArray, List.set_cons_zero, List.set_cons_succ]))
                    (refine wpAnyH_take (i := 24) (v := ?_) (by simp only [List.getElem?_toArray, List.getElem?_cons_succ, List.getElem?_cons_zero]; rfl) (by kernel_rfl) (by kernel_rfl) (by kernel_rfl) ?_ (Or.inl ⟨by rfl, ?_⟩) (by assumption) ?_; rotate_left; (focus (exact fun _ _ _ h => h)); (focus ((intro w hSw); (try dsimp only at hSw); (first | (go_simp; done) | (go_simp; with_reducible rfl)))); (try simp only [Act.put, List.setIfInBounds_toArray, List.set_cons_zero, List.set_cons_succ]))
                    (refine wpAnyH_take (i := 25) (v := ?_) (by simp only [List.getElem?_toArray, List.getElem?_cons_succ, List.getElem?_cons_zero]; rfl) (by kernel_rfl) (by kernel_rfl) (by kernel_rfl) ?_ (Or.inl ⟨by rfl, ?_⟩) (by assumption) ?_; rotate_left; (focus (exact fun _ _ _ h => h)); (focus ((intro w hSw); (try dsimp only at hSw); (first | (go_simp; done) | (go_simp; with_reducible rfl)))); (try simp only [Act.put, List.setIfInBounds_toArray, List.set_cons_zero, List.set_cons_succ]))
                    refine wpAnyH_ready (rs := [26]) (by kernel_rfl) (by simp) ?_
                    refine AllReadyH.cons (by simp only [List.getElem?_toArray, List.getElem?_cons_succ, List.getElem?_cons_zero]; rfl) (fun K hK => ?_) AllReadyH.nil
                    go_simp
                    refine (HDK.out _ (HI.out.below (binto E.below.drew hbf))).mono ?_
                    rintro e wg ⟨rfl, hbg⟩
                    have hbfg := binto hbf hbg
                    dsimp only
                    refine hK.out _ _ ⟨keep (w := wc.drew) hbfg k0 klt, keep (w := wc.drew) hbfg k1 klt, keep (w := wc.drew) hbfg k2 klt, keep (w := wc.drew) hbfg cx hbc⟩ (fun hHeld3 => ?_)
                    clear hK K hHeld2
                    try simp only [Act.put, List.setIfInBounds_toArray, List.set_cons_zero, List.set_cons_succ]
                    (refine wpAnyH_take (i := 27) (v := ?_) (by simp only [List.getElem?_toArray, List.getElem?_cons_succ, List.getElem?_cons_zero]; rfl) (by kernel_rfl) (by kernel_rfl) (by kernel_rfl) ?_ (Or.inl ⟨by rfl, ?_⟩) (by assumption) ?_; rotate_left; (focus (exact fun _ _ _ h => h)); (focus ((intro w hSw); (try dsimp only at hSw); (first | (go_simp; done) | (go_simp; with_reducible rfl)))); (try simp only [Act.put, List.setIfInBounds_toArray, List.set_cons_zero, List.set_cons_succ]))
                    refine wpAnyH_done (by kernel_rfl) ?_ _
                    have E' : LoEnv w l.length H (.slice a np cp) wg := E.keep ((Below.refl wc.heap.size wc).drew.trans hbfg)
                    have hown' := own_keep HOWN.out ((Below.refl wc.heap.size wc).drew.trans hbfg)
                    clear hHeld3 hbf hbg hbfg E hBw k0 k1 k2 kf klt cx HOWN
                    obtain ⟨k0, k1, k2, kf, klt⟩ := E'.img.d3
                    by_cases hn0 : 0 < n
                    · have hd0 : decide (0 < (n : Int)) = true := by simp; omega
                      have HE1 := Lib.hid (HED.out (xn : Int) ⟨n, by omega, HALL.out.out, fun _ => by rw [HDF.out]; simp, by rw [if_pos ⟨hn0, by omega, HTT.out⟩]; exact HXN.out.symm⟩)
                      go_wp2_with fail
                      refine (HTH.out _ (HT.out.below E'.below)).mono ?_
                      rintro e wh ⟨rfl, hbh⟩
                      have E2 := E'.keep hbh
                      have hown2 := own_keep hown' hbh
                      clear E' hown' hbh k0 k1 k2 kf klt
                      dsimp only
                      have hszX := E2.img.lt
                      go_wp2_with (at_builtin; refine wp_app1 _ rfl _ _ 25 rfl (w.heap.size + 1) 3 (.int .i64 0) 1 8 Tryz.underlying25 Tryz.infoInt rfl (by decide) (by decide) _ _ _ rfl (hown2.alloc _) _ [.int .i64 (xn)] rfl rfl (Blk.new _ _ _) (by simp [Value.oneCell']) (by omega) (by simp; omega) ?_; intro v' w4 hown4 hg4)
                      have hbb4 : Below (w.heap.size + 1) wh w4 := ((Below.refl (w.heap.size + 1) wh).alloc (by omega) _).grown hg4 (by simp; omega) (fun j hj => (hown2.lt j hj).1)
                      refine ⟨⟨k + 1, o ++ [(xn : Int)], by go_num, by omega, by simp [hol], HE1.out, ⟨E2.below.trans (hbb4.mono (by omega)), E2.img.keep hbb4 (by omega)⟩, ?_⟩, by simp [intOf]; omega⟩
                      rw [List.map_append]; exact hown4
                    · have hd0 : decide (0 < (n : Int)) = false := by simp; omega
                      have HE1 := Lib.hid (HED.out (-1) ⟨n, by omega, HALL.out.out, fun _ => by rw [HDF.out]; simp, by rw [if_neg (by omega)]⟩)
                      have hszX := E'.img.lt
                      go_wp2_with (at_builtin; refine wp_app1 _ rfl _ _ 25 rfl (w.heap.size + 1) 3 (.int .i64 0) 1 8 Tryz.underlying25 Tryz.infoInt rfl (by decide) (by decide) _ _ _ rfl (hown'.alloc _) _ [.int .i64 (-1)] rfl rfl (Blk.new _ _ _) (by simp [Value.oneCell']) (by omega) (by simp; omega) ?_; intro v' w4 hown4 hg4)
                      have hbb4 : Below (w.heap.size + 1) wg w4 := ((Below.refl (w.heap.size + 1) wg).alloc (by omega) _).grown hg4 (by simp; omega) (fun j hj => (hown'.lt j hj).1)
                      refine ⟨⟨k + 1, o ++ [-1], by go_num, by omega, by simp [hol], HE1.out, ⟨E'.below.trans (hbb4.mono (by omega)), E'.img.keep hbb4 (by omega)⟩, ?_⟩, by simp [intOf]; omega⟩
                      rw [List.map_append]; exact hown4
                | false =>
                  rw [show thereB (l.length : Int) H l (bs + n) k = false from htt] at hTH
                  have HTH := Lib.hid hTH
                  have HE1 := Lib.hid (HED.out (-1) ⟨n, by omega, hall.out, fun _ => by rw [htt]; rfl, by rw [if_neg (by rw [htt]; simp)]⟩)
                  clear htt hTH hall
                  go_wp2_with fail
                  refine wp_region_held_drew (S := fun w' => w'.cell? ⟨w.heap.size, 0, none⟩ = some (.int .i64 l.length) ∧ w'.cell? ⟨w.heap.size, 1, none⟩ = some (.int .i64 H) ∧ w'.cell? ⟨w.heap.size, 2, none⟩ = some (.slice a np cp)) (by kernel_rfl) ⟨k0, k1, k2⟩ (fun hHeld => ?_)
                  (refine wpAnyH_take (i := 0) (v := ?_) (by simp only [List.getElem?_toArray, List.getElem?_cons_succ, List.getElem?_cons_zero]; rfl) (by kernel_rfl) (by kernel_rfl) (by kernel_rfl) ?_ (Or.inl ⟨by rfl, ?_⟩) (by assumption) ?_; rotate_left; (focus (exact fun _ _ _ h => h)); (focus ((intro w hSw); (try dsimp only at hSw); (first | (go_simp; done) | (go_simp; with_reducible rfl)))); (try simp only [Act.put, List.setIfInBounds_toArray, List.set_cons_zero, List.set_cons_succ]))
                  (refine wpAnyH_take (i := 1) (v := ?_) (by simp only [List.getElem?_toArray, List.getElem?_cons_succ, List.getElem?_cons_zero]; rfl) (by kernel_rfl) (by kernel_rfl) (by kernel_rfl) ?_ (Or.inl ⟨by rfl, ?_⟩) (by assumption) ?_; rotate_left; (focus (exact fun _ _ _ h => h)); (focus ((intro w hSw); (try dsimp only at hSw); (first | (go_simp; done) | (go_simp; with_reducible rfl)))); (try simp only [Act.put, List.setIfInBounds_toArray, List.set_cons_zero, List.set_cons_succ]))
                  (refine wpAnyH_take (i := 2) (v := ?_) (by simp only [List.getElem?_toArray, List.getElem?_cons_succ, List.getElem?_cons_zero]; rfl) (by kernel_rfl) (by kernel_rfl) (by kernel_rfl) ?_ (Or.inl ⟨by rfl, ?_⟩) (by assumption) ?_; rotate_left; (focus (exact fun _ _ _ h => h)); (focus ((intro w hSw); (try dsimp only at hSw); (first | (go_simp; done) | (go_simp; with_reducible rfl)))); (try simp only [Act.put, List.setIfInBounds_toArray, List.set_cons_zero, List.set_cons_succ]))
                  (refine wpAnyH_take (i := 3) (v := ?_) (by simp only [List.getElem?_toArray, List.getElem?_cons_succ, List.getElem?_cons_zero]; rfl) (by kernel_rfl) (by kernel_rfl) (by kernel_rfl) ?_ (Or.inl ⟨by rfl, ?_⟩) (by assumption) ?_; rotate_left; (focus (exact fun _ _ _ h => h)); (focus ((intro w hSw); (try dsimp only at hSw); (first | (go_simp; done) | (go_simp; with_reducible rfl)))); (try simp only [Act.put, List.setIfInBounds_toArray, List.set_cons_zero, List.set_cons_succ]))
                  (refine wpAnyH_take (i := 4) (v := ?_) (by simp only [List.getElem?_toArray, List.getElem?_cons_succ, List.getElem?_cons_zero]; rfl) (by kernel_rfl) (by kernel_rfl) (by kernel_rfl) ?_ (Or.inl ⟨by rfl, ?_⟩) (by assumption) ?_; rotate_left; (focus (exact fun _ _ _ h => h)); (focus ((intro w hSw); (try dsimp only at hSw); (first | (go_simp; done) | (go_simp; with_reducible rfl)))); (try simp only [Act.put, List.setIfInBounds_toArray, List.set_cons_zero, List.set_cons_succ]))
                  (refine wpAnyH_take (i := 5) (v := ?_) (by simp only [List.getElem?_toArray, List.getElem?_cons_succ, List.getElem?_cons_zero]; rfl) (by kernel_rfl) (by kernel_rfl) (by kernel_rfl) ?_ (Or.inl ⟨by rfl, ?_⟩) (by assumption) ?_; rotate_left; (focus (exact fun _ _ _ h => h)); (focus ((intro w hSw); (try dsimp only at hSw); (first | (go_simp; done) | (go_simp; with_reducible rfl)))); (try simp only [Act.put, List.setIfInBounds_toArray, List.set_cons_zero, List.set_cons_succ]))
                  (refine wpAnyH_take (i := 6) (v := ?_) (by simp only [List.getElem?_toArray, List.getElem?_cons_succ, List.getElem?_cons_zero]; rfl) (by kernel_rfl) (by kernel_rfl) (by kernel_rfl) ?_ (Or.inl ⟨by rfl, ?_⟩) (by assumption) ?_; rotate_left; (focus (exact fun _ _ _ h => h)); (focus ((intro w hSw); (try dsimp only at hSw); (first | (go_simp; done) | (go_simp; with_reducible rfl)))); (try simp only [Act.put, List.setIfInBounds_toArray, List.set_cons_zero, List.set_cons_succ]))
                  (refine wpAnyH_take (i := 7) (v := ?_) (by simp only [List.getElem?_toArray, List.getElem?_cons_succ, List.getElem?_cons_zero]; rfl) (by kernel_rfl) (by kernel_rfl) (by kernel_rfl) ?_ (Or.inl ⟨by rfl, ?_⟩) (by assumption) ?_; rotate_left; (focus (exact fun _ _ _ h => h)); (focus ((intro w hSw); (try dsimp only at hSw); (first | (go_simp; done) | (go_simp; with_reducible rfl)))); (try simp only [Act.put, List.setIfInBounds_toArray, List.set_cons_zero, List.set_cons_succ]))
                  (refine wpAnyH_take (i := 8) (v := ?_) (by simp only [List.getElem?_toArray, List.getElem?_cons_succ, List.getElem?_cons_zero]; rfl) (by kernel_rfl) (by kernel_rfl) (by kernel_rfl) ?_ (Or.inl ⟨by rfl, ?_⟩) (by assumption) ?_; rotate_left; (focus (exact fun _ _ _ h => h)); (focus ((intro w hSw); (try dsimp only at hSw); (first | (go_simp; done) | (go_simp; with_reducible rfl)))); (try simp only [Act.put, List.setIfInBounds_toArray, List.set_cons_zero, List.set_cons_succ]))
                  (refine wpAnyH_take (i := 9) (v := ?_) (by simp only [List.getElem?_toArray, List.getElem?_cons_succ, List.getElem?_cons_zero]; rfl) (by kernel_rfl) (by kernel_rfl) (by kernel_rfl) ?_ (Or.inl ⟨by rfl, ?_⟩) (by assumption) ?_; rotate_left; (focus (exact fun _ _ _ h => h)); (focus ((intro w hSw); (try dsimp only at hSw); (first | (go_simp; done) | (go_simp; with_reducible rfl)))); (try simp only [Act.put, List.setIfInBounds_toArray, List.set_cons_zero, List.set_cons_succ]))
                  (refine wpAnyH_take (i := 10) (v := ?_) (by simp only [List.getElem?_toArray, List.getElem?_cons_succ, List.getElem?_cons_zero]; rfl) (by kernel_rfl) (by kernel_rfl) (by kernel_rfl) ?_ (Or.inl ⟨by rfl, ?_⟩) (by assumption) ?_; rotate_left; (focus (exact fun _ _ _ h => h)); (focus ((intro w hSw); (try dsimp only at hSw); (first | (go_simp; done) | (go_simp; with_reducible rfl)))); (try simp only [Act.put, List.setIfInBounds_toArray, List.set_cons_zero, List.set_cons_succ]))
                  refine wpAnyH_ready (rs := [11]) (by kernel_rfl) (by simp) ?_
                  refine AllReadyH.cons (by simp only [List.getElem?_toArray, List.getElem?_cons_succ, List.getElem?_cons_zero]; rfl) (fun K hK => ?_) AllReadyH.nil
                  go_simp
                  refine (HTH.out _ (HT.out.below E.below.drew)).mono ?_
                  rintro e wf ⟨rfl, hbf⟩
                  dsimp only
                  refine hK.out _ _ ⟨keep (w := wc.drew) hbf k0 klt, keep (w := wc.drew) hbf k1 klt, keep (w := wc.drew) hbf k2 klt⟩ (fun hHeld2 => ?_)
                  clear hK K hHeld
                  try simp only [Act.put, List.setIfInBounds_toArray, List.set_cons_zero, List.set_cons_succ]
                  (refine wpAnyH_take (i := 12) (v := ?_) (by simp only [List.getElem?_toArray, List.getElem?_cons_succ, List.getElem?_cons_zero]; rfl) (by kernel_rfl) (by kernel_rfl) (by kernel_rfl) ?_ (Or.inl ⟨by rfl, ?_⟩) (by assumption) ?_; rotate_left; (focus (exact fun _ _ _ h => h)); (focus ((intro w hSw); (try dsimp only at hSw); (first | (go_simp; done) | (go_simp; with_reducible rfl)))); (try simp only [Act.put, List.setIfInBounds_toArray, List.set_cons_zero, List.set_cons_succ]))
                  (refine wpAnyH_take (i := 13) (v := ?_) (by simp only [List.getElem?_toArray, List.getElem?_cons_succ, List.getElem?_cons_zero]; rfl) (by kernel_rfl) (by kernel_rfl) (by kernel_rfl) ?_ (Or.inl ⟨by rfl, ?_⟩) (by assumption) ?_; rotate_left; (focus (exact fun _ _ _ h => h)); (focus ((intro w hSw); (try dsimp only at hSw); (first | (go_simp; done) | (go_simp; with_reducible rfl)))); (try simp only [Act.put, List.setIfInBounds_toArray, List.set_cons_zero, List.set_cons_succ]))
                  refine wpAnyH_skip (by kernel_rfl) (fun _ _ _ d h => by cases d <;> exact h) [14, 15, 16, 17, 18, 19, 20, 21, 22, 23, 24, 25, 26] _ _ _ _ (by kernel_rfl) (by assumption) ?_
                  simp only [skipL, skipA, skipOne, List.getElem?_toArray, List.getElem?_cons_succ, List.getElem?_cons_zero, Option.bind_some, Act.put, List.setIfInBounds_toArray, List.set_cons_zero, List.set_cons_succ]
                  (refine wpAnyH_take (i := 27) (v := ?_) (by simp only [List.getElem?_toArray, List.getElem?_cons_succ, List.getElem?_cons_zero]; rfl) (by kernel_rfl) (by kernel_rfl) (by kernel_rfl) ?_ (Or.inl ⟨by rfl, ?_⟩) (by assumption) ?_; rotate_left; (focus (exact fun _ _ _ h => h)); (focus ((intro w hSw); (try dsimp only at hSw); (first | (go_simp; done) | (go_simp; with_reducible rfl)))); (try simp only [Act.put, List.setIfInBounds_toArray, List.set_cons_zero, List.set_cons_succ]))
                  refine wpAnyH_done (by kernel_rfl) ?_ _
                  have E' : LoEnv w l.length H (.slice a np cp) wf := E.keep ((Below.refl wc.heap.size wc).drew.trans hbf)
                  have hown' := own_keep HOWN.out ((Below.refl wc.heap.size wc).drew.trans hbf)
                  clear hHeld2 hbf E hBw k0 k1 k2 kf klt HOWN
                  obtain ⟨k0, k1, k2, kf, klt⟩ := E'.img.d3
                  by_cases hn0 : 0 < n
                  · have hd0 : decide (0 < (n : Int)) = true := by simp; omega
                    go_wp2_with fail
                    refine (HTH.out _ (HT.out.below E'.below)).mono ?_
                    rintro e wh ⟨rfl, hbh⟩
                    have E2 := E'.keep hbh
                    have hown2 := own_keep hown' hbh
                    clear E' hown' hbh k0 k1 k2 kf klt
                    dsimp only
                    have hszX := E2.img.lt
                    go_wp2_with (at_builtin; refine wp_app1 _ rfl _ _ 25 rfl (w.heap.size + 1) 3 (.int .i64 0) 1 8 Tryz.underlying25 Tryz.infoInt rfl (by decide) (by decide) _ _ _ rfl (hown2.alloc _) _ [.int .i64 (-1)] rfl rfl (Blk.new _ _ _) (by simp [Value.oneCell']) (by omega) (by simp; omega) ?_; intro v' w4 hown4 hg4)
                    have hbb4 : Below (w.heap.size + 1) wh w4 := ((Below.refl (w.heap.size + 1) wh).alloc (by omega) _).grown hg4 (by simp; omega) (fun j hj => (hown2.lt j hj).1)
                    refine ⟨⟨k + 1, o ++ [-1], by go_num, by omega, by simp [hol], HE1.out, ⟨E2.below.trans (hbb4.mono (by omega)), E2.img.keep hbb4 (by omega)⟩, ?_⟩, by simp [intOf]; omega⟩
                    rw [List.map_append]; exact hown4
                  · have hd0 : decide (0 < (n : Int)) = false := by simp; omega
                    have hszX := E'.img.lt
                    go_wp2_with (at_builtin; refine wp_app1 _ rfl _ _ 25 rfl (w.heap.size + 1) 3 (.int .i64 0) 1 8 Tryz.underlying25 Tryz.infoInt rfl (by decide) (by decide) _ _ _ rfl (hown'.alloc _) _ [.int .i64 (-1)] rfl rfl (Blk.new _ _ _) (by simp [Value.oneCell']) (by omega) (by simp; omega) ?_; intro v' w4 hown4 hg4)
                    have hbb4 : Below (w.heap.size + 1) wf w4 := ((Below.refl (w.heap.size + 1) wf).alloc (by omega) _).grown hg4 (by simp; omega) (fun j hj => (hown'.lt j hj).1)
                    refine ⟨⟨k + 1, o ++ [-1], by go_num, by omega, by simp [hol], HE1.out, ⟨E'.below.trans (hbb4.mono (by omega)), E'.img.keep hbb4 (by omega)⟩, ?_⟩, by simp [intOf]; omega⟩
                    rw [List.map_append]; exact hown4
              · have hd4 : decide ((n : Int) ≤ 4 * s) = false := by simpa using hn4
                have HE1 := Lib.hid (HED.out (-1) ⟨n, by omega, hall.out, fun _ => by omega, by rw [if_neg (by omega)]⟩)
                have hn0 : decide (0 < (n : Int)) = true := by simp; omega
                clear hall hTH
                go_wp2_with fail
                go_quiet (fail)
                generalize hWq : World.drewN wc _ = X
                have hbq : Below wc.heap.size wc X := by rw [← hWq]; exact below_drewN (Below.refl _ _) _
                have E' := E.keep hbq
                have hown' := own_keep HOWN.out hbq
                clear hWq hbq E hBw k0 k1 k2 kf klt HOWN
                have hszX := E'.img.lt
                go_wp2_with (at_builtin; refine wp_app1 _ rfl _ _ 25 rfl (w.heap.size + 1) 3 (.int .i64 0) 1 8 Tryz.underlying25 Tryz.infoInt rfl (by decide) (by decide) _ _ _ rfl (hown'.alloc _) _ [.int .i64 (-1)] rfl rfl (Blk.new _ _ _) (by simp [Value.oneCell']) (by omega) (by simp; omega) ?_; intro v' w4 hown4 hg4)
                have hbb4 : Below (w.heap.size + 1) X w4 := ((Below.refl (w.heap.size + 1) X).alloc (by omega) _).grown hg4 (by simp; omega) (fun j hj => (hown'.lt j hj).1)
                refine ⟨⟨k + 1, o ++ [-1], by go_num, by omega, by simp [hol], HE1.out, ⟨E'.below.trans (hbb4.mono (by omega)), E'.img.keep hbb4 (by omega)⟩, ?_⟩, by simp [intOf]; omega⟩
                rw [List.map_append]; exact hown4
          · obtain rfl : k = N := by omega
            have hEA : EdgesAre l.length H px l s R o := ⟨by rw [hol]; exact HN.out.symm, f, HFT.out, fun j hj => by rw [← HBS.out]; exact hed.out j (by omega)⟩
            have hVO := hEA.ok h2 (by have := HN.out; omega)
            have HEA := Lib.hid hEA
            have hown' := hown
            rw [← hol] at hown'
            have HRD := Lib.hid (own_reads hown')
            have HVO := Lib.hid hVO
            have hBE := Lib.hid E.below
            have hd0 : decide ((k : Int) < (k : Int)) = false := by simp
            clear hEA hed hVO hown' hown E
            go_wp2_with fail
            refine (filled_any _ o wb HVO.out HRD.out).mono ?_
            rintro e w7 ⟨u, rfl, hou, hb7⟩
            have hBf := binto hBE.out hb7
            have hsz := hBE.out.size
            dsimp only
            go_wp2_with fail
            go_ret
            rw [fillF_len] at hou
            exact ⟨o, HEA.out, u, rfl, own_base hou hsz, hBf⟩
      · have hd : (l.length : Int) ≤ (f : Int) := by omega
        clear hgo
        go_wp2_with fail
        go_loopw [11, 12] (fun v x wr => ∃ (k : Nat) (o : List Int), x = .int .i64 k ∧ k ≤ N ∧ o.length = k ∧ Hid (∀ j : Nat, j < k → EdgeIs (tAt l.length H l bs j) (dAt l.length H px l bs j) (4 * s).toNat bs (o.getD j 0)) ∧ LoEnv w l.length H (.slice a np cp) wr ∧ wr.ownsRow (w.heap.size + 1) 3 1 v k (o.map (Value.int .i64))) (fun _ x _ => N - (intOf x).toNat)
        case atStart => exact ⟨0, [], rfl, by omega, rfl, fun j hj => by omega, E, World.ownsRow_nil _ _ _ _⟩
        case round =>
          clear E
          obtain ⟨k, o, rfl, hk, hol, hed, E, hown⟩ := hrel
          obtain ⟨wb, rfl⟩ : ∃ wo : World, wo = wr := ⟨_, rfl⟩
          by_cases hkN : k < N
          · have hdk : decide ((k : Int) < (N : Int)) = true := by simp; omega
            have HED : ∀ v, EdgeIs (tAt l.length H l bs k) (dAt l.length H px l bs k) (4 * s).toNat bs v → Hid (∀ j : Nat, j < k + 1 → EdgeIs (tAt l.length H l bs j) (dAt l.length H px l bs j) (4 * s).toNat bs ((o ++ [v]).getD j 0)) := fun v hv j hj => by
              rcases Nat.lt_or_ge j k with g' | g'
              · have := hed.out j g'
                simpa [List.getD, List.getElem?_append_left (show j < o.length by omega)] using this
              · obtain rfl : j = k := by omega
                simpa [List.getD, ← hol] using hol ▸ hv
            have HED := Lib.hid HED
            clear hed
            go_wp2_with fail
            go_loopw [13] (fun x wr => ∃ n : Nat, x = .int .i64 n ∧ (n : Int) ≤ 4 * s + 1 ∧ Hid (∀ m, m < n → tAt l.length H l bs k m = true ∧ dAt l.length H px l bs k m = true) ∧ LoEnv w l.length H (.slice a np cp) wr ∧ Below wb.heap.size wb wr) (fun x _ => (4 * s + 1).toNat - (intOf x).toNat)
            case atStart => exact ⟨0, rfl, by omega, fun m hm => by omega, E, Below.refl _ _⟩
            case round =>
              clear E
              obtain ⟨n, rfl, hn, hall, E, hBw⟩ := hrel
              obtain ⟨wc, rfl⟩ : ∃ wo : World, wo = wr := ⟨_, rfl⟩
              have hwx : IntKind.i64.wrap (bs + (n : Int)) = bs + (n : Int) := IntWalk.i64_in _ (by omega)
              obtain ⟨k0, k1, k2, kf, klt⟩ := E.img.d3
              have HOWN := Lib.hid (own_keep hown hBw)
              have hszc := E.img.lt
              have hTH := fun wz h => there_any l.length H (.slice a np cp) (.slice (some ⟨b, off, none⟩) l.length cap) l (bs + n) k wz h rfl h2 HOK.out ⟨by omega, by omega⟩
              clear hown
              by_cases hn4 : (n : Int) ≤ 4 * s
              · have hd4 : decide ((n : Int) ≤ 4 * s) = true := by simpa using hn4
                cases htt : tAt l.length H l bs k n with
                | true =>
                  rw [show thereB (l.length : Int) H l (bs + n) k = true from htt] at hTH
                  have htt' : thereB (l.length : Int) H l (bs + n) k = true := htt
                  simp only [thereB, inB, Bool.and_eq_true, decide_eq_true_eq] at htt'
                  obtain ⟨⟨⟨g1, g2⟩, g3⟩, g4⟩ := htt'
                  obtain ⟨xn, hxn⟩ : ∃ xn : Nat, bs + (n : Int) = xn := ⟨(bs + n).toNat, by omega⟩
                  have hxl : xn < l.length := by omega
                  have hxl2 : (xn : Int) < (l.length : Int) := by omega
                  have cx := keep E.below (HC.out xn _ (getD_some (d := 0) hxl)) hb
                  obtain ⟨hok1, hok2⟩ := listOk_get HOK.out hxl
                  rw [hxn, Int.toNat_natCast] at g3 g4
                  have hdd : dAt l.length H px l bs k n = darkB l.length H px xn (l.getD xn 0 + k) := by
                    simp only [dAt, darkB]; rw [hxn, Int.toNat_natCast]
                  obtain ⟨tx, htx⟩ : ∃ tx, tx = l.getD xn 0 := ⟨_, rfl⟩
                  rw [← htx] at cx g3 g4 hok1 hok2 hdd
                  have hwt : IntKind.i64.wrap (tx + (k : Int)) = tx + (k : Int) := IntWalk.i64_in _ (by omega)
                  rw [hxn] at hTH
                  replace hwx : IntKind.i64.wrap (bs + (n : Int)) = (xn : Int) := by rw [hwx, hxn]
                  have hbc : b < wc.heap.size := Nat.lt_of_lt_of_le hb E.below.size
                  have HTH := Lib.hid hTH
                  have HXN := Lib.hid hxn
                  have HTT := Lib.hid htt
                  clear hTH htt htx hxn
                  cases hdk : darkB l.length H px xn (tx + k) with
                  | true =>
                    have hall' : ∀ m, m < n + 1 → tAt l.length H l bs k m = true ∧ dAt l.length H px l bs k m = true := fun m hm => by
                      rcases Nat.lt_or_eq_of_le (Nat.le_of_lt_succ hm) with g | rfl
                      · exact hall.out m g
                      · exact ⟨HTT.out, by rw [hdd]; exact hdk⟩
                    have HALL := Lib.hid hall'
                    have HDK := Lib.hid (fun wz hz => dark_is (pv := .slice a np cp) hdk (w := wz) hz)
                    clear hall hall' hdd hdk
                    go_wp2_with fail
                    refine wp_region_held_drew (S := fun w' => w'.cell? ⟨w.heap.size, 0, none⟩ = some (.int .i64 l.length) ∧ w'.cell? ⟨w.heap.size, 1, none⟩ = some (.int .i64 H) ∧ w'.cell? ⟨w.heap.size, 2, none⟩ = some (.slice a np cp) ∧ w'.cell? ⟨b, off + xn, none⟩ = some (.int .i64 tx)) (by kernel_rfl) ⟨k0, k1, k2, cx⟩ (fun hHeld => ?_)
                    (refine wpAnyH_take (i := 0) (v := ?_) (by simp only [List.getElem?_toArray, List.getElem?_cons_succ, List.getElem?_cons_zero]; rfl) (by kernel_rfl) (by kernel_rfl) (by kernel_rfl) ?_ (Or.inl ⟨by rfl, ?_⟩) (by assumption) ?_; rotate_left; (focus (exact fun _ _ _ h => h)); (focus ((intro w hSw); (try dsimp only at hSw); (first | (go_simp; done) | (go_simp; with_reducible rfl)))); (try simp only [Act.put, List.setIfInBounds_toArray, List.set_cons_zero, List.set_cons_succ]))
                    (refine wpAnyH_take (i := 1) (v := ?_) (by simp only [List.getElem?_toArray, List.getElem?_cons_succ, List.getElem?_cons_zero]; rfl) (by kernel_rfl) (by kernel_rfl) (by kernel_rfl) ?_ (Or.inl ⟨by rfl, ?_⟩) (by assumption) ?_; rotate_left; (focus (exact fun _ _ _ h => h)); (focus ((intro w hSw); (try dsimp only at hSw); (first | (go_simp; done) | (go_simp; with_reducible rfl)))); (try simp only [Act.put, List.setIfInBounds_toArray, List.set_cons_zero, List.set_cons_succ]))
                    (refine wpAnyH_take (i := 2) (v := ?_) (by simp only [List.getElem?_toArray, List.getElem?_cons_succ, List.getElem?_cons_zero]; rfl) (by kernel_rfl) (by kernel_rfl) (by kernel_rfl) ?_ (Or.inl ⟨by rfl, ?_⟩) (by assumption) ?_; rotate_left; (focus (exact fun _ _ _ h => h)); (focus ((intro w hSw); (try dsimp only at hSw); (first | (go_simp; done) | (go_simp; with_reducible rfl)))); (try simp only [Act.put, List.setIfInBounds_toArray, List.set_cons_zero, List.set_cons_succ]))
                    (refine wpAnyH_take (i := 3) (v := ?_) (by simp only [List.getElem?_toArray, List.getElem?_cons_succ, List.getElem?_cons_zero]; rfl) (by kernel_rfl) (by kernel_rfl) (by kernel_rfl) ?_ (Or.inl ⟨by rfl, ?_⟩) (by assumption) ?_; rotate_left; (focus (exact fun _ _ _ h => h)); (focus ((intro w hSw); (try dsimp only at hSw); (first | (go_simp; done) | (go_simp; with_reducible rfl)))); (try simp only [Act.put, List.setIfInBounds_toArray, List.set_cons_zero, List.set_cons_succ]))
                    (refine wpAnyH_take (i := 4) (v := ?_) (by simp only [List.getElem?_toArray, List.getElem?_cons_succ, List.getElem?_cons_zero]; rfl) (by kernel_rfl) (by kernel_rfl) (by kernel_rfl) ?_ (Or.inl ⟨by rfl, ?_⟩) (by assumption) ?_; rotate_left; (focus (exact fun _ _ _ h => h)); (focus ((intro w hSw); (try dsimp only at hSw); (first | (go_simp; done) | (go_simp; with_reducible rfl)))); (try simp only [Act.put, List.setIfInBounds_toArray, List.set_cons_zero, List.set_cons_succ]))
                    (refine wpAnyH_take (i := 5) (v := ?_) (by simp only [List.getElem?_toArray, List.getElem?_cons_succ, List.getElem?_cons_zero]; rfl) (by kernel_rfl) (by kernel_rfl) (by kernel_rfl) ?_ (Or.inl ⟨by rfl, ?_⟩) (by assumption) ?_; rotate_left; (focus (exact fun _ _ _ h => h)); (focus ((intro w hSw); (try dsimp only at hSw); (first | (go_simp; done) | (go_simp; with_reducible rfl)))); (try simp only [Act.put, List.setIfInBounds_toArray, List.set_cons_zero, List.set_cons_succ]))
                    (refine wpAnyH_take (i := 6) (v := ?_) (by simp only [List.getElem?_toArray, List.getElem?_cons_succ, List.getElem?_cons_zero]; rfl) (by kernel_rfl) (by kernel_rfl) (by kernel_rfl) ?_ (Or.inl ⟨by rfl, ?_⟩) (by assumption) ?_; rotate_left; (focus (exact fun _ _ _ h => h)); (focus ((intro w hSw); (try dsimp only at hSw); (first | (go_simp; done) | (go_simp; with_reducible rfl)))); (try simp only [Act.put, List.setIfInBounds_toArray, List.set_cons_zero, List.set_cons_succ]))
                    (refine wpAnyH_take (i := 7) (v := ?_) (by simp only [List.getElem?_toArray, List.getElem?_cons_succ, List.getElem?_cons_zero]; rfl) (by kernel_rfl) (by kernel_rfl) (by kernel_rfl) ?_ (Or.inl ⟨by rfl, ?_⟩) (by assumption) ?_; rotate_left; (focus (exact fun _ _ _ h => h)); (focus ((intro w hSw); (try dsimp only at hSw); (first | (go_simp; done) | (go_simp; with_reducible rfl)))); (try simp only [Act.put, List.setIfInBounds_toArray, List.set_cons_zero, List.set_cons_succ]))
                    (refine wpAnyH_take (i := 8) (v := ?_) (by simp only [List.getElem?_toArray, List.getElem?_cons_succ, List.getElem?_cons_zero]; rfl) (by kernel_rfl) (by kernel_rfl) (by kernel_rfl) ?_ (Or.inl ⟨by rfl, ?_⟩) (by assumption) ?_; rotate_left; (focus (exact fun _ _ _ h => h)); (focus ((intro w hSw); (try dsimp only at hSw); (first | (go_simp; done) | (go_simp; with_reducible rfl)))); (try simp only [Act.put, List.setIfInBounds_toArray, List.set_cons_zero, List.set_cons_succ]))
                    (refine wpAnyH_take (i := 9) (v := ?_) (by simp only [List.getElem?_toArray, List.getElem?_cons_succ, List.getElem?_cons_zero]; rfl) (by kernel_rfl) (by kernel_rfl) (by kernel_rfl) ?_ (Or.inl ⟨by rfl, ?_⟩) (by assumption) ?_; rotate_left; (focus (exact fun _ _ _ h => h)); (focus ((intro w hSw); (try dsimp only at hSw); (first | (go_simp; done) | (go_simp; with_reducible rfl)))); (try simp only [Act.put, List.setIfInBounds_toArray, List.set_cons_zero, List.set_cons_succ]))
                    (refine wpAnyH_take (i := 10) (v := ?_) (by simp only [List.getElem?_toArray, List.getElem?_cons_succ, List.getElem?_cons_zero]; rfl) (by kernel_rfl) (by kernel_rfl) (by kernel_rfl) ?_ (Or.inl ⟨by rfl, ?_⟩) (by assumption) ?_; rotate_left; (focus (exact fun _ _ _ h => h)); (focus ((intro w hSw); (try dsimp only at hSw); (first | (go_simp; done) | (go_simp; with_reducible rfl)))); (try simp only [Act.put, List.setIfInBounds_toArray, List.set_cons_zero, List.set_cons_succ]))
                    refine wpAnyH_ready (rs := [11]) (by kernel_rfl) (by simp) ?_
                    refine AllReadyH.cons (by simp only [List.getElem?_toArray, List.getElem?_cons_succ, List.getElem?_cons_zero]; rfl) (fun K hK => ?_) AllReadyH.nil
                    go_simp
                    refine (HTH.out _ (HT.out.below E.below.drew)).mono ?_
                    rintro e wf ⟨rfl, hbf⟩
                    dsimp only
                    refine hK.out _ _ ⟨keep (w := wc.drew) hbf k0 klt, keep (w := wc.drew) hbf k1 klt, keep (w := wc.drew) hbf k2 klt, keep (w := wc.drew) hbf cx hbc⟩ (fun hHeld2 => ?_)
                    clear hK K hHeld
                    try simp only [Act.put, List.setIfInBounds_toArray, List.set_cons_zero, List.set_cons_succ]
                    (refine wpAnyH_take (i := 12) (v := ?_) (by simp only [List.getElem?_toArray, List.getElem?_cons_succ, List.getElem?_cons_zero]; rfl) (by kernel_rfl) (by kernel_rfl) (by kernel_rfl) ?_ (Or.inl ⟨by rfl, ?_⟩) (by assumption) ?_; rotate_left; (focus (exact fun _ _ _ h => h)); (focus ((intro w hSw); (try dsimp only at hSw); (first | (go_simp; done) | (go_simp; with_reducible rfl)))); (try simp only [Act.put, List.setIfInBounds_toArray, List.set_cons_zero, List.set_cons_succ]))
                    (refine wpAnyH_take (i := 13) (v := ?_) (by simp only [List.getElem?_toArray, List.getElem?_cons_succ, List.getElem?_cons_zero]; rfl) (by kernel_rfl) (by kernel_rfl) (by kernel_rfl) ?_ (Or.inl ⟨by rfl, ?_⟩) (by assumption) ?_; rotate_left; (focus (exact fun _ _ _ h => h)); (focus ((intro w hSw); (try dsimp only at hSw); (first | (go_simp; done) | (go_simp; with_reducible rfl)))); (try simp only [Act.put, List.setIfInBounds_toArray, List.set_cons_zero, List.set_cons_succ]))
                    (refine wpAnyH_take (i := 14) (v := ?_) (by simp only [List.getElem?_toArray, List.getElem?_cons_succ, List.getElem?_cons_zero]; rfl) (by kernel_rfl) (by kernel_rfl) (by kernel_rfl) ?_ (Or.inl ⟨by rfl, ?_⟩) (by assumption) ?_; rotate_left; (focus (exact fun _ _ _ h => h)); (focus ((intro w hSw); (try dsimp only at hSw); (first | (go_simp; done) | (go_simp; with_reducible rfl)))); (try simp only [Act.put, List.setIfInBounds_toArray, List.set_cons_zero, List.set_cons_succ]))
                    (refine wpAnyH_take (i := 15) (v := ?_) (by simp only [List.getElem?_toArray, List.getElem?_cons_succ, List.getElem?_cons_zero]; rfl) (by kernel_rfl) (by kernel_rfl) (by kernel_rfl) ?_ (Or.inl ⟨by rfl, ?_⟩) (by assumption) ?_; rotate_left; (focus (exact fun _ _ _ h => h)); (focus ((intro w hSw); (try dsimp only at hSw); (first | (go_simp; done) | (go_simp; with_reducible rfl)))); (try simp only [Act.put, List.setIfInBounds_toArray, List.set_cons_zero, List.set_cons_succ]))
                    (refine wpAnyH_take (i := 16) (v := ?_) (by simp only [List.getElem?_toArray, List.getElem?_cons_succ, List.getElem?_cons_zero]; rfl) (by kernel_rfl) (by kernel_rfl) (by kernel_rfl) ?_ (Or.inl ⟨by rfl, ?_⟩) (by assumption) ?_; rotate_left; (focus (exact fun _ _ _ h => h)); (focus ((intro w hSw); (try dsimp only at hSw); (first | (go_simp; done) | (go_simp; with_reducible rfl)))); (try simp only [Act.put, List.setIfInBounds_toArray, List.set_cons_zero, List.set_cons_succ]))
                    (refine wpAnyH_take (i := 17) (v := ?_) (by simp only [List.getElem?_toArray, List.getElem?_cons_succ, List.getElem?_cons_zero]; rfl) (by kernel_rfl) (by kernel_rfl) (by kernel_rfl) ?_ (Or.inl ⟨by rfl, ?_⟩) (by assumption) ?_; rotate_left; (focus (exact fun _ _ _ h => h)); (focus ((intro w hSw); (try dsimp only at hSw); (first | (go_simp; done) | (go_simp; with_reducible rfl)))); (try simp only [Act.put, List.setIfInBounds_toArray, List.set_cons_zero, List.set_cons_succ]))
                    (refine wpAnyH_take (i := 18) (v := ?_) (by simp only [List.getElem?_toArray, List.getElem?_cons_succ, List.getElem?_cons_zero]; rfl) (by kernel_rfl) (by kernel_rfl) (by kernel_rfl) ?_ (Or.inl ⟨by rfl, ?_⟩) (by assumption) ?_; rotate_left; (focus (exact fun _ _ _ h => h)); (focus ((intro w hSw); (try dsimp only at hSw); (first | (go_simp; done) | (go_simp; with_reducible rfl)))); (try simp only [Act.put, List.setIfInBounds_toArray, List.set_cons_zero, List.set_cons_succ]))
                    (refine wpAnyH_take (i := 19) (v := ?_) (by simp only [List.getElem?_toArray, List.getElem?_cons_succ, List.getElem?_cons_zero]; rfl) (by kernel_rfl) (by kernel_rfl) (by kernel_rfl) ?_ (Or.inl ⟨by rfl, ?_⟩) (by assumption) ?_; rotate_left; (focus (exact fun _ _ _ h => h)); (focus ((intro w hSw); (try dsimp only at hSw); (first | (go_simp; done) | (go_simp; with_reducible rfl)))); (try simp only [Act.put, List.setIfInBounds_toArray, List.set_cons_zero, List.set_cons_succ]))
                    (refine wpAnyH_take (i := 20) (v := ?_) (by simp only [List.getElem?_toArray, List.getElem?_cons_succ, List.getElem?_cons_zero]; rfl) (by kernel_rfl) (by kernel_rfl) (by kernel_rfl) ?_ (Or.inl ⟨by rfl, ?_⟩) (by assumption) ?_; rotate_left; (focus (exact fun _ _ _ h => h)); (focus ((intro w hSw); (try dsimp only at hSw); (first | (go_simp; done) | (go_simp; with_reducible rfl)))); (try simp only [Act.put, List.setIfInBounds_toArray, List.set_cons_zero, List.set_cons_succ]))
                    (refine wpAnyH_take (i := 21) (v := ?_) (by simp only [List.getElem?_toArray, List.getElem?_cons_succ, List.getElem?_cons_zero]; rfl) (by kernel_rfl) (by kernel_rfl) (by kernel_rfl) ?_ (Or.inl ⟨by rfl, ?_⟩) (by assumption) ?_; rotate_left; (focus (exact fun _ _ _ h => h)); (focus ((intro w hSw); (try dsimp only at hSw); (first | (go_simp; done) | (go_simp; with_reducible rfl)))); (try simp only [Act.put, List.setIfInBounds_toArray, List.set_cons_zero, List.set_cons_succ]))
                    (refine wpAnyH_take (i := 22) (v := ?_) (by simp only [List.getElem?_toArray, List.getElem?_cons_succ, List.getElem?_cons_zero]; rfl) (by kernel_rfl) (by kernel_rfl) (by kernel_rfl) ?_ (Or.inl ⟨by rfl, ?_⟩) (by assumption) ?_; rotate_left; (focus (exact fun _ _ _ h => h)); (focus ((intro w hSw); (try dsimp only at hSw); (first | (go_simp; done) | (go_simp; with_reducible rfl)))); (try simp only [Act.put, List.setIfInBounds_toArray, List.set_cons_zero, List.set_cons_succ]))
                    (refine wpAnyH_take (i := 23) (v := ?_) (by simp only [List.getElem?_toArray, List.getElem?_cons_succ, List.getElem?_cons_zero]; rfl) (by kernel_rfl) (by kernel_rfl) (by kernel_rfl) ?_ (Or.inl ⟨by rfl, ?_⟩) (by assumption) ?_; rotate_left; (focus (exact fun _ _ _ h => h)); (focus ((intro w hSw); (try dsimp only at hSw); (first | (go_simp; done) | (go_simp; with_reducible rfl)))); (try simp only [Act.put, List.setIfInBounds_toArray, List.set_cons_zero, List.set_cons_succ]))
                    (refine wpAnyH_take (i := 24) (v := ?_) (by simp only [List.getElem?_toArray, List.getElem?_cons_succ, List.getElem?_cons_zero]; rfl) (by kernel_rfl) (by kernel_rfl) (by kernel_rfl) ?_ (Or.inl ⟨by rfl, ?_⟩) (by assumption) ?_; rotate_left; (focus (exact fun _ _ _ h => h)); (focus ((intro w hSw); (try dsimp only at hSw); (first | (go_simp; done) | (go_simp; with_reducible rfl)))); (try simp only [Act.put, List.setIfInBounds_toArray, List.set_cons_zero, List.set_cons_succ]))
                    (refine wpAnyH_take (i := 25) (v := ?_) (by simp only [List.getElem?_toArray, List.getElem?_cons_succ, List.getElem?_cons_zero]; rfl) (by kernel_rfl) (by kernel_rfl) (by kernel_rfl) ?_ (Or.inl ⟨by rfl, ?_⟩) (by assumption) ?_; rotate_left; (focus (exact fun _ _ _ h => h)); (focus ((intro w hSw); (try dsimp only at hSw); (first | (go_simp; done) | (go_simp; with_reducible rfl)))); (try simp only [Act.put, List.setIfInBounds_toArray, List.set_cons_zero, List.set_cons_succ]))
                    refine wpAnyH_ready (rs := [26]) (by kernel_rfl) (by simp) ?_
                    refine AllReadyH.cons (by simp only [List.getElem?_toArray, List.getElem?_cons_succ, List.getElem?_cons_zero]; rfl) (fun K hK => ?_) AllReadyH.nil
                    go_simp
                    refine (HDK.out _ (HI.out.below (binto E.below.drew hbf))).mono ?_
                    rintro e wg ⟨rfl, hbg⟩
                    have hbfg := binto hbf hbg
                    dsimp only
                    refine hK.out _ _ ⟨keep (w := wc.drew) hbfg k0 klt, keep (w := wc.drew) hbfg k1 klt, keep (w := wc.drew) hbfg k2 klt, keep (w := wc.drew) hbfg cx hbc⟩ (fun hHeld3 => ?_)
                    clear hK K hHeld2
                    try simp only [Act.put, List.setIfInBounds_toArray, List.set_cons_zero, List.set_cons_succ]
                    (refine wpAnyH_take (i := 27) (v := ?_) (by simp only [List.getElem?_toArray, List.getElem?_cons_succ, List.getElem?_cons_zero]; rfl) (by kernel_rfl) (by kernel_rfl) (by kernel_rfl) ?_ (Or.inl ⟨by rfl, ?_⟩) (by assumption) ?_; rotate_left; (focus (exact fun _ _ _ h => h)); (focus ((intro w hSw); (try dsimp only at hSw); (first | (go_simp; done) | (go_simp; with_reducible rfl)))); (try simp only [Act.put, List.setIfInBounds_toArray, List.set_cons_zero, List.set_cons_succ]))
                    refine wpAnyH_done (by kernel_rfl) ?_ _
                    have E' : LoEnv w l.length H (.slice a np cp) wg := E.keep ((Below.refl wc.heap.size wc).drew.trans hbfg)
                    have hBw' : Below wb.heap.size wb wg := binto hBw ((Below.refl wc.heap.size wc).drew.trans hbfg)
                    clear hHeld3 hbf hbg hbfg
                    go_wp2_with fail
                    go_roundw
                    case rel => exact ⟨n + 1, by go_num, by omega, HALL, E', hBw'⟩
                    case measure => simp [intOf]; omega
                  | false =>
                    have HDK := Lib.hid (fun wz hz => dark_is (pv := .slice a np cp) hdk (w := wz) hz)
                    have hdf : dAt l.length H px l bs k n = false := by rw [hdd]; exact hdk
                    have HDF := Lib.hid hdf
                    have HALL := Lib.hid hall
                    clear hall hdd hdk hdf
                    go_wp2_with fail
                    refine wp_region_held_drew (S := fun w' => w'.cell? ⟨w.heap.size, 0, none⟩ = some (.int .i64 l.length) ∧ w'.cell? ⟨w.heap.size, 1, none⟩ = some (.int .i64 H) ∧ w'.cell? ⟨w.heap.size, 2, none⟩ = some (.slice a np cp) ∧ w'.cell? ⟨b, off + xn, none⟩ = some (.int .i64 tx)) (by kernel_rfl) ⟨k0, k1, k2, cx⟩ (fun hHeld => ?_)
                    (refine wpAnyH_take (i := 0) (v := ?_) (by simp only [List.getElem?_toArray, List.getElem?_cons_succ, List.getElem?_cons_zero]; rfl) (by kernel_rfl) (by kernel_rfl) (by kernel_rfl) ?_ (Or.inl ⟨by rfl, ?_⟩) (by assumption) ?_; rotate_left; (focus (exact fun _ _ _ h => h)); (focus ((intro w hSw); (try dsimp only at hSw); (first | (go_simp; done) | (go_simp; with_reducible rfl)))); (try simp only [Act.put, List.setIfInBounds_toArray, List.set_cons_zero, List.set_cons_succ]))
                    (refine wpAnyH_take (i := 1) (v := ?_) (by simp only [List.getElem?_toArray, List.getElem?_cons_succ, List.getElem?_cons_zero]; rfl) (by kernel_rfl) (by kernel_rfl) (by kernel_rfl) ?_ (Or.inl ⟨by rfl, ?_⟩) (by assumption) ?_; rotate_left; (focus (exact fun _ _ _ h => h)); (focus ((intro w hSw); (try dsimp only at hSw); (first | (go_simp; done) | (go_simp; with_reducible rfl)))); (try simp only [Act.put, List.setIfInBounds_toArray, List.set_cons_zero, List.set_cons_succ]))
                    (refine wpAnyH_take (i := 2) (v := ?_) (by simp only [List.getElem?_toArray, List.getElem?_cons_succ, List.getElem?_cons_zero]; rfl) (by kernel_rfl) (by kernel_rfl) (by kernel_rfl) ?_ (Or.inl ⟨by rfl, ?_⟩) (by assumption) ?_; rotate_left; (focus (exact fun _ _ _ h => h)); (focus ((intro w hSw); (try dsimp only at hSw); (first | (go_simp; done) | (go_simp; with_reducible rfl)))); (try simp only [Act.put, List.setIfInBounds_toArray, List.set_cons_zero, List.set_cons_succ]))
                    (refine wpAnyH_take (i := 3) (v := ?_) (by simp only [List.getElem?_toArray, List.getElem?_cons_succ, List.getElem?_cons_zero]; rfl) (by kernel_rfl) (by kernel_rfl) (by kernel_rfl) ?_ (Or.inl ⟨by rfl, ?_⟩) (by assumption) ?_; rotate_left; (focus (exact fun _ _ _ h => h)); (focus ((intro w hSw); (try dsimp only at hSw); (first | (go_simp; done) | (go_simp; with_reducible rfl)))); (try simp only [Act.put, List.setIfInBounds_toArray, List.set_cons_zero, List.set_cons_succ]))
                    (refine wpAnyH_take (i := 4) (v := ?_) (by simp only [List.getElem?_toArray, List.getElem?_cons_succ, List.getElem?_cons_zero]; rfl) (by kernel_rfl) (by kernel_rfl) (by kernel_rfl) ?_ (Or.inl ⟨by rfl, ?_⟩) (by assumption) ?_; rotate_left; (focus (exact fun _ _ _ h => h)); (focus ((intro w hSw); (try dsimp only at hSw); (first | (go_simp; done) | (go_simp; with_reducible rfl)))); (try simp only [Act.put, List.setIfInBounds_toArray, List.set_cons_zero, List.set_cons_succ]))
                    (refine wpAnyH_take (i := 5) (v := ?_) (by simp only [List.getElem?_toArray, List.getElem?_cons_succ, List.getElem?_cons_zero]; rfl) (by kernel_rfl) (by kernel_rfl) (by kernel_rfl) ?_ (Or.inl ⟨by rfl, ?_⟩) (by assumption) ?_; rotate_left; (focus (exact fun _ _ _ h => h)); (focus ((intro w hSw); (try dsimp only at hSw); (first | (go_simp; done) | (go_simp; with_reducible rfl)))); (try simp only [Act.put, List.setIfInBounds_toArray, List.set_cons_zero, List.set_cons_succ]))
                    (refine wpAnyH_take (i := 6) (v := ?_) (by simp only [List.getElem?_toArray, List.getElem?_cons_succ, List.getElem?_cons_zero]; rfl) (by kernel_rfl) (by kernel_rfl) (by kernel_rfl) ?_ (Or.inl ⟨by rfl, ?_⟩) (by assumption) ?_; rotate_left; (focus (exact fun _ _ _ h => h)); (focus ((intro w hSw); (try dsimp only at hSw); (first | (go_simp; done) | (go_simp; with_reducible rfl)))); (try simp only [Act.put, List.setIfInBounds_toArray, List.set_cons_zero, List.set_cons_succ]))
                    (refine wpAnyH_take (i := 7) (v := ?_) (by simp only [List.getElem?_toArray, List.getElem?_cons_succ, List.getElem?_cons_zero]; rfl) (by kernel_rfl) (by kernel_rfl) (by kernel_rfl) ?_ (Or.inl ⟨by rfl, ?_⟩) (by assumption) ?_; rotate_left; (focus (exact fun _ _ _ h => h)); (focus ((intro w hSw); (try dsimp only at hSw); (first | (go_simp; done) | (go_simp; with_reducible rfl)))); (try simp only [Act.put, List.setIfInBounds_toArray, List.set_cons_zero, List.set_cons_succ]))
                    (refine wpAnyH_take (i := 8) (v := ?_) (by simp only [List.getElem?_toArray, List.getElem?_cons_succ, List.getElem?_cons_zero]; rfl) (by kernel_rfl) (by kernel_rfl) (by kernel_rfl) ?_ (Or.inl ⟨by rfl, ?_⟩) (by assumption) ?_; rotate_left; (focus (exact fun _ _ _ h => h)); (focus ((intro w hSw); (try dsimp only at hSw); (first | (go_simp; done) | (go_simp; with_reducible rfl)))); (try simp only [Act.put, List.setIfInBounds_toArray, List.set_cons_zero, List.set_cons_succ]))
                    (refine wpAnyH_take (i := 9) (v := ?_) (by simp only [List.getElem?_toArray, List.getElem?_cons_succ, List.getElem?_cons_zero]; rfl) (by kernel_rfl) (by kernel_rfl) (by kernel_rfl) ?_ (Or.inl ⟨by rfl, ?_⟩) (by assumption) ?_; rotate_left; (focus (exact fun _ _ _ h => h)); (focus ((intro w hSw); (try dsimp only at hSw); (first | (go_simp; done) | (go_simp; with_reducible rfl)))); (try simp only [Act.put, List.setIfInBounds_toArray, List.set_cons_zero, List.set_cons_succ]))
                    (refine wpAnyH_take (i := 10) (v := ?_) (by simp only [List.getElem?_toArray, List.getElem?_cons_succ, List.getElem?_cons_zero]; rfl) (by kernel_rfl) (by kernel_rfl) (by kernel_rfl) ?_ (Or.inl ⟨by rfl, ?_⟩) (by assumption) ?_; rotate_left; (focus (exact fun _ _ _ h => h)); (focus ((intro w hSw); (try dsimp only at hSw); (first | (go_simp; done) | (go_simp; with_reducible rfl)))); (try simp only [Act.put, List.setIfInBounds_toArray, List.set_cons_zero, List.set_cons_succ]))
                    refine wpAnyH_ready (rs := [11]) (by kernel_rfl) (by simp) ?_
                    refine AllReadyH.cons (by simp only [List.getElem?_toArray, List.getElem?_cons_succ, List.getElem?_cons_zero]; rfl) (fun K hK => ?_) AllReadyH.nil
                    go_simp
                    refine (HTH.out _ (HT.out.below E.below.drew)).mono ?_
                    rintro e wf ⟨rfl, hbf⟩
                    dsimp only
                    refine hK.out _ _ ⟨keep (w := wc.drew) hbf k0 klt, keep (w := wc.drew) hbf k1 klt, keep (w := wc.drew) hbf k2 klt, keep (w := wc.drew) hbf cx hbc⟩ (fun hHeld2 => ?_)
                    clear hK K hHeld
                    try simp only [Act.put, List.setIfInBounds_toArray, List.set_cons_zero, List.set_cons_succ]
                    (refine wpAnyH_take (i := 12) (v := ?_) (by simp only [List.getElem?_toArray, List.getElem?_cons_succ, List.getElem?_cons_zero]; rfl) (by kernel_rfl) (by kernel_rfl) (by kernel_rfl) ?_ (Or.inl ⟨by rfl, ?_⟩) (by assumption) ?_; rotate_left; (focus (exact fun _ _ _ h => h)); (focus ((intro w hSw); (try dsimp only at hSw); (first | (go_simp; done) | (go_simp; with_reducible rfl)))); (try simp only [Act.put, List.setIfInBounds_toArray, List.set_cons_zero, List.set_cons_succ]))
                    (refine wpAnyH_take (i := 13) (v := ?_) (by simp only [List.getElem?_toArray, List.getElem?_cons_succ, List.getElem?_cons_zero]; rfl) (by kernel_rfl) (by kernel_rfl) (by kernel_rfl) ?_ (Or.inl ⟨by rfl, ?_⟩) (by assumption) ?_; rotate_left; (focus (exact fun _ _ _ h => h)); (focus ((intro w hSw); (try dsimp only at hSw); (first | (go_simp; done) | (go_simp; with_reducible rfl)))); (try simp only [Act.put, List.setIfInBounds_toArray, List.set_cons_zero, List.set_cons_succ]))
                    (refine wpAnyH_take (i := 14) (v := ?_) (by simp only [List.getElem?_toArray, List.getElem?_cons_succ, List.getElem?_cons_zero]; rfl) (by kernel_rfl) (by kernel_rfl) (by kernel_rfl) ?_ (Or.inl ⟨by rfl, ?_⟩) (by assumption) ?_; rotate_left; (focus (exact fun _ _ _ h => h)); (focus ((intro w hSw); (try dsimp only at hSw); (first | (go_simp; done) | (go_simp; with_reducible rfl)))); (try simp only [Act.put, List.setIfInBounds_toArray, List.set_cons_zero, List.set_cons_succ]))
                    (refine wpAnyH_take (i := 15) (v := ?_) (by simp only [List.getElem?_toArray, List.getElem?_cons_succ, List.getElem?_cons_zero]; rfl) (by kernel_rfl) (by kernel_rfl) (by kernel_rfl) ?_ (Or.inl ⟨by rfl, ?_⟩) (by assumption) ?_; rotate_left; (focus (exact fun _ _ _ h => h)); (focus ((intro w hSw); (try dsimp only at hSw); (first | (go_simp; done) | (go_simp; with_reducible rfl)))); (try simp only [Act.put, List.setIfInBounds_toArray, List.set_cons_zero, List.set_cons_succ]))
                    (refine wpAnyH_take (i := 16) (v := ?_) (by simp only [List.getElem?_toArray, List.getElem?_cons_succ, List.getElem?_cons_zero]; rfl) (by kernel_rfl) (by kernel_rfl) (by kernel_rfl) ?_ (Or.inl ⟨by rfl, ?_⟩) (by assumption) ?_; rotate_left; (focus (exact fun _ _ _ h => h)); (focus ((intro w hSw); (try dsimp only at hSw); (first | (go_simp; done) | (go_simp; with_reducible rfl)))); (try simp only [Act.put, List.setIfInBounds_toArray, List.set_cons_zero, List.set_cons_succ]))
                    (refine wpAnyH_take (i := 17) (v := ?_) (by simp only [List.getElem?_toArray, List.getElem?_cons_succ, List.getElem?_cons_zero]; rfl) (by kernel_rfl) (by kernel_rfl) (by kernel_rfl) ?_ (Or.inl ⟨by rfl, ?_⟩) (by assumption) ?_; rotate_left; (focus (exact fun _ _ _ h => h)); (focus ((intro w hSw); (try dsimp only at hSw); (first | (go_simp; done) | (go_simp; with_reducible rfl)))); (try simp only [Act.put, List.setIfInBounds_toArray, List.set_cons_zero, List.set_cons_succ]))
                    (refine wpAnyH_take (i := 18) (v := ?_) (by simp only [List.getElem?_toArray, List.getElem?_cons_succ, List.getElem?_cons_zero]; rfl) (by kernel_rfl) (by kernel_rfl) (by kernel_rfl) ?_ (Or.inl ⟨by rfl, ?_⟩) (by assumption) ?_; rotate_left; (focus (exact fun _ _ _ h => h)); (focus ((intro w hSw); (try dsimp only at hSw); (first | (go_simp; done) | (go_simp; with_reducible rfl)))); (try simp only [Act.put, List.setIfInBounds_toArray, List.set_cons_zero, List.set_cons_succ]))
                    (refine wpAnyH_take (i := 19) (v := ?_) (by simp only [List.getElem?_toArray, List.getElem?_cons_succ, List.getElem?_cons_zero]; rfl) (by kernel_rfl) (by kernel_rfl) (by kernel_rfl) ?_ (Or.inl ⟨by rfl, ?_⟩) (by assumption) ?_; rotate_left; (focus (exact fun _ _ _ h => h)); (focus ((intro w hSw); (try dsimp only at hSw); (first | (go_simp; done) | (go_simp; with_reducible rfl)))); (try simp only [Act.put, List.setIfInBounds_toArray, List.set_cons_zero, List.set_cons_succ]))
                    (refine wpAnyH_take (i := 20) (v := ?_) (by simp only [List.getElem?_toArray, List.getElem?_cons_succ, List.getElem?_cons_zero]; rfl) (by kernel_rfl) (by kernel_rfl) (by kernel_rfl) ?_ (Or.inl ⟨by rfl, ?_⟩) (by assumption) ?_; rotate_left; (focus (exact fun _ _ _ h => h)); (focus ((intro w hSw); (try dsimp only at hSw); (first | (go_simp; done) | (go_simp; with_reducible rfl)))); (try simp only [Act.put, List.setIfInBounds_toArray, List.set_cons_zero, List.set_cons_succ]))
                    (refine wpAnyH_take (i := 21) (v := ?_) (by simp only [List.getElem?_toArray, List.getElem?_cons_succ, List.getElem?_cons_zero]; rfl) (by kernel_rfl) (by kernel_rfl) (by kernel_rfl) ?_ (Or.inl ⟨by rfl, ?_⟩) (by assumption) ?_; rotate_left; (focus (exact fun _ _ _ h => h)); (focus ((intro w hSw); (try dsimp only at hSw); (first | (go_simp; done) | (go_simp; with_reducible rfl)))); (try simp only [Act.put, List.setIfInBounds_toArray, List.set_cons_zero, List.set_cons_succ]))
                    (refine wpAnyH_take (i := 22) (v := ?_) (by simp only [List.getElem?_toArray, List.getElem?_cons_succ, List.getElem?_cons_zero]; rfl) (by kernel_rfl) (by kernel_rfl) (by kernel_rfl) ?_ (Or.inl ⟨by rfl, ?_⟩) (by assumption) ?_; rotate_left; (focus (exact fun _ _ _ h => h)); (focus ((intro w hSw); (try dsimp only at hSw); (first | (go_simp; done) | (go_simp; with_reducible rfl)))); (try simp only [Act.put, List.setIfInBounds_toArray, List.set_cons_zero, List.set_cons_succ]))
                    (refine wpAnyH_take (i := 23) (v := ?_) (by simp only [List.getElem?_toArray, List.getElem?_cons_succ, List.getElem?_cons_zero]; rfl) (by kernel_rfl) (by kernel_rfl) (by kernel_rfl) ?_ (Or.inl ⟨by rfl, ?_⟩) (by assumption) ?_; rotate_left; (focus (exact fun _ _ _ h => h)); (focus ((intro w hSw); (try dsimp only at hSw); (first | (go_simp; done) | (go_simp; with_reducible rfl)))); (try simp only [Act.put, List.setIfInBounds_toArray, List.set_cons_zero, List.set_cons_succ]))
                    (refine wpAnyH_take (i := 24) (v := ?_) (by simp only [List.getElem?_toArray, List.getElem?_cons_succ, List.getElem?_cons_zero]; rfl) (by kernel_rfl) (by kernel_rfl) (by kernel_rfl) ?_ (Or.inl ⟨by rfl, ?_⟩) (by assumption) ?_; rotate_left; (focus (exact fun _ _ _ h => h)); (focus ((intro w hSw); (try dsimp only at hSw); (first | (go_simp; done) | (go_simp; with_reducible rfl)))); (try simp only [Act.put, List.setIfInBounds_toArray, List.set_cons_zero, List.set_cons_succ]))
                    (refine wpAnyH_take (i := 25) (v := ?_) (by simp only [List.getElem?_toArray, List.getElem?_cons_succ, List.getElem?_cons_zero]; rfl) (by kernel_rfl) (by kernel_rfl) (by kernel_rfl) ?_ (Or.inl ⟨by rfl, ?_⟩) (by assumption) ?_; rotate_left; (focus (exact fun _ _ _ h => h)); (focus ((intro w hSw); (try dsimp only at hSw); (first | (go_simp; done) | (go_simp; with_reducible rfl)))); (try simp only [Act.put, List.setIfInBounds_toArray, List.set_cons_zero, List.set_cons_succ]))
                    refine wpAnyH_ready (rs := [26]) (by kernel_rfl) (by simp) ?_
                    refine AllReadyH.cons (by simp only [List.getElem?_toArray, List.getElem?_cons_succ, List.getElem?_cons_zero]; rfl) (fun K hK => ?_) AllReadyH.nil
                    go_simp
                    refine (HDK.out _ (HI.out.below (binto E.below.drew hbf))).mono ?_
                    rintro e wg ⟨rfl, hbg⟩
                    have hbfg := binto hbf hbg
                    dsimp only
                    refine hK.out _ _ ⟨keep (w := wc.drew) hbfg k0 klt, keep (w := wc.drew) hbfg k1 klt, keep (w := wc.drew) hbfg k2 klt, keep (w := wc.drew) hbfg cx hbc⟩ (fun hHeld3 => ?_)
                    clear hK K hHeld2
                    try simp only [Act.put, List.setIfInBounds_toArray, List.set_cons_zero, List.set_cons_succ]
                    (refine wpAnyH_take (i := 27) (v := ?_) (by simp only [List.getElem?_toArray, List.getElem?_cons_succ, List.getElem?_cons_zero]; rfl) (by kernel_rfl) (by kernel_rfl) (by kernel_rfl) ?_ (Or.inl ⟨by rfl, ?_⟩) (by assumption) ?_; rotate_left; (focus (exact fun _ _ _ h => h)); (focus ((intro w hSw); (try dsimp only at hSw); (first | (go_simp; done) | (go_simp; with_reducible rfl)))); (try simp only [Act.put, List.setIfInBounds_toArray, List.set_cons_zero, List.set_cons_succ]))
                    refine wpAnyH_done (by kernel_rfl) ?_ _
                    have E' : LoEnv w l.length H (.slice a np cp) wg := E.keep ((Below.refl wc.heap.size wc).drew.trans hbfg)
                    have hown' := own_keep HOWN.out ((Below.refl wc.heap.size wc).drew.trans hbfg)
                    clear hHeld3 hbf hbg hbfg E hBw k0 k1 k2 kf klt cx HOWN
                    obtain ⟨k0, k1, k2, kf, klt⟩ := E'.img.d3
                    by_cases hn0 : 0 < n
                    · have hd0 : decide (0 < (n : Int)) = true := by simp; omega
                      have HE1 := Lib.hid (HED.out (xn : Int) ⟨n, by omega, HALL.out.out, fun _ => by rw [HDF.out]; simp, by rw [if_pos ⟨hn0, by omega, HTT.out⟩]; exact HXN.out.symm⟩)
                      go_wp2_with fail
                      refine (HTH.out _ (HT.out.below E'.below)).mono ?_
                      rintro e wh ⟨rfl, hbh⟩
                      have E2 := E'.keep hbh
                      have hown2 := own_keep hown' hbh
                      clear E' hown' hbh k0 k1 k2 kf klt
                      dsimp only
                      have hszX := E2.img.lt
                      go_wp2_with (at_builtin; refine wp_app1 _ rfl _ _ 25 rfl (w.heap.size + 1) 3 (.int .i64 0) 1 8 Tryz.underlying25 Tryz.infoInt rfl (by decide) (by decide) _ _ _ rfl (hown2.alloc _) _ [.int .i64 (xn)] rfl rfl (Blk.new _ _ _) (by simp [Value.oneCell']) (by omega) (by simp; omega) ?_; intro v' w4 hown4 hg4)
                      have hbb4 : Below (w.heap.size + 1) wh w4 := ((Below.refl (w.heap.size + 1) wh).alloc (by omega) _).grown hg4 (by simp; omega) (fun j hj => (hown2.lt j hj).1)
                      refine ⟨⟨k + 1, o ++ [(xn : Int)], by go_num, by omega, by simp [hol], HE1.out, ⟨E2.below.trans (hbb4.mono (by omega)), E2.img.keep hbb4 (by omega)⟩, ?_⟩, by simp [intOf]; omega⟩
                      rw [List.map_append]; exact hown4
                    · have hd0 : decide (0 < (n : Int)) = false := by simp; omega
                      have HE1 := Lib.hid (HED.out (-1) ⟨n, by omega, HALL.out.out, fun _ => by rw [HDF.out]; simp, by rw [if_neg (by omega)]⟩)
                      have hszX := E'.img.lt
                      go_wp2_with (at_builtin; refine wp_app1 _ rfl _ _ 25 rfl (w.heap.size + 1) 3 (.int .i64 0) 1 8 Tryz.underlying25 Tryz.infoInt rfl (by decide) (by decide) _ _ _ rfl (hown'.alloc _) _ [.int .i64 (-1)] rfl rfl (Blk.new _ _ _) (by simp [Value.oneCell']) (by omega) (by simp; omega) ?_; intro v' w4 hown4 hg4)
                      have hbb4 : Below (w.heap.size + 1) wg w4 := ((Below.refl (w.heap.size + 1) wg).alloc (by omega) _).grown hg4 (by simp; omega) (fun j hj => (hown'.lt j hj).1)
                      refine ⟨⟨k + 1, o ++ [-1], by go_num, by omega, by simp [hol], HE1.out, ⟨E'.below.trans (hbb4.mono (by omega)), E'.img.keep hbb4 (by omega)⟩, ?_⟩, by simp [intOf]; omega⟩
                      rw [List.map_append]; exact hown4
                | false =>
                  rw [show thereB (l.length : Int) H l (bs + n) k = false from htt] at hTH
                  have HTH := Lib.hid hTH
                  have HE1 := Lib.hid (HED.out (-1) ⟨n, by omega, hall.out, fun _ => by rw [htt]; rfl, by rw [if_neg (by rw [htt]; simp)]⟩)
                  clear htt hTH hall
                  go_wp2_with fail
                  refine wp_region_held_drew (S := fun w' => w'.cell? ⟨w.heap.size, 0, none⟩ = some (.int .i64 l.length) ∧ w'.cell? ⟨w.heap.size, 1, none⟩ = some (.int .i64 H) ∧ w'.cell? ⟨w.heap.size, 2, none⟩ = some (.slice a np cp)) (by kernel_rfl) ⟨k0, k1, k2⟩ (fun hHeld => ?_)
                  (refine wpAnyH_take (i := 0) (v := ?_) (by simp only [List.getElem?_toArray, List.getElem?_cons_succ, List.getElem?_cons_zero]; rfl) (by kernel_rfl) (by kernel_rfl) (by kernel_rfl) ?_ (Or.inl ⟨by rfl, ?_⟩) (by assumption) ?_; rotate_left; (focus (exact fun _ _ _ h => h)); (focus ((intro w hSw); (try dsimp only at hSw); (first | (go_simp; done) | (go_simp; with_reducible rfl)))); (try simp only [Act.put, List.setIfInBounds_toArray, List.set_cons_zero, List.set_cons_succ]))
                  (refine wpAnyH_take (i := 1) (v := ?_) (by simp only [List.getElem?_toArray, List.getElem?_cons_succ, List.getElem?_cons_zero]; rfl) (by kernel_rfl) (by kernel_rfl) (by kernel_rfl) ?_ (Or.inl ⟨by rfl, ?_⟩) (by assumption) ?_; rotate_left; (focus (exact fun _ _ _ h => h)); (focus ((intro w hSw); (try dsimp only at hSw); (first | (go_simp; done) | (go_simp; with_reducible rfl)))); (try simp only [Act.put, List.setIfInBounds_toArray, List.set_cons_zero, List.set_cons_succ]))
                  (refine wpAnyH_take (i := 2) (v := ?_) (by simp only [List.getElem?_toArray, List.getElem?_cons_succ, List.getElem?_cons_zero]; rfl) (by kernel_rfl) (by kernel_rfl) (by kernel_rfl) ?_ (Or.inl ⟨by rfl, ?_⟩) (by assumption) ?_; rotate_left; (focus (exact fun _ _ _ h => h)); (focus ((intro w hSw); (try dsimp only at hSw); (first | (go_simp; done) | (go_simp; with_reducible rfl)))); (try simp only [Act.put, List.setIfInBounds_toArray, List.set_cons_zero, List.set_cons_succ]))
                  (refine wpAnyH_take (i := 3) (v := ?_) (by simp only [List.getElem?_toArray, List.getElem?_cons_succ, List.getElem?_cons_zero]; rfl) (by kernel_rfl) (by kernel_rfl) (by kernel_rfl) ?_ (Or.inl ⟨by rfl, ?_⟩) (by assumption) ?_; rotate_left; (focus (exact fun _ _ _ h => h)); (focus ((intro w hSw); (try dsimp only at hSw); (first | (go_simp; done) | (go_simp; with_reducible rfl)))); (try simp only [Act.put, List.setIfInBounds_toArray, List.set_cons_zero, List.set_cons_succ]))
                  (refine wpAnyH_take (i := 4) (v := ?_) (by simp only [List.getElem?_toArray, List.getElem?_cons_succ, List.getElem?_cons_zero]; rfl) (by kernel_rfl) (by kernel_rfl) (by kernel_rfl) ?_ (Or.inl ⟨by rfl, ?_⟩) (by assumption) ?_; rotate_left; (focus (exact fun _ _ _ h => h)); (focus ((intro w hSw); (try dsimp only at hSw); (first | (go_simp; done) | (go_simp; with_reducible rfl)))); (try simp only [Act.put, List.setIfInBounds_toArray, List.set_cons_zero, List.set_cons_succ]))
                  (refine wpAnyH_take (i := 5) (v := ?_) (by simp only [List.getElem?_toArray, List.getElem?_cons_succ, List.getElem?_cons_zero]; rfl) (by kernel_rfl) (by kernel_rfl) (by kernel_rfl) ?_ (Or.inl ⟨by rfl, ?_⟩) (by assumption) ?_; rotate_left; (focus (exact fun _ _ _ h => h)); (focus ((intro w hSw); (try dsimp only at hSw); (first | (go_simp; done) | (go_simp; with_reducible rfl)))); (try simp only [Act.put, List.setIfInBounds_toArray, List.set_cons_zero, List.set_cons_succ]))
                  (refine wpAnyH_take (i := 6) (v := ?_) (by simp only [List.getElem?_toArray, List.getElem?_cons_succ, List.getElem?_cons_zero]; rfl) (by kernel_rfl) (by kernel_rfl) (by kernel_rfl) ?_ (Or.inl ⟨by rfl, ?_⟩) (by assumption) ?_; rotate_left; (focus (exact fun _ _ _ h => h)); (focus ((intro w hSw); (try dsimp only at hSw); (first | (go_simp; done) | (go_simp; with_reducible rfl)))); (try simp only [Act.put, List.setIfInBounds_toArray, List.set_cons_zero, List.set_cons_succ]))
                  (refine wpAnyH_take (i := 7) (v := ?_) (by simp only [List.getElem?_toArray, List.getElem?_cons_succ, List.getElem?_cons_zero]; rfl) (by kernel_rfl) (by kernel_rfl) (by kernel_rfl) ?_ (Or.inl ⟨by rfl, ?_⟩) (by assumption) ?_; rotate_left; (focus (exact fun _ _ _ h => h)); (focus ((intro w hSw); (try dsimp only at hSw); (first | (go_simp; done) | (go_simp; with_reducible rfl)))); (try simp only [Act.put, List.setIfInBounds_toArray, List.set_cons_zero, List.set_cons_succ]))
                  (refine wpAnyH_take (i := 8) (v := ?_) (by simp only [List.getElem?_toArray, List.getElem?_cons_succ, List.getElem?_cons_zero]; rfl) (by kernel_rfl) (by kernel_rfl) (by kernel_rfl) ?_ (Or.inl ⟨by rfl, ?_⟩) (by assumption) ?_; rotate_left; (focus (exact fun _ _ _ h => h)); (focus ((intro w hSw); (try dsimp only at hSw); (first | (go_simp; done) | (go_simp; with_reducible rfl)))); (try simp only [Act.put, List.setIfInBounds_toArray, List.set_cons_zero, List.set_cons_succ]))
                  (refine wpAnyH_take (i := 9) (v := ?_) (by simp only [List.getElem?_toArray, List.getElem?_cons_succ, List.getElem?_cons_zero]; rfl) (by kernel_rfl) (by kernel_rfl) (by kernel_rfl) ?_ (Or.inl ⟨by rfl, ?_⟩) (by assumption) ?_; rotate_left; (focus (exact fun _ _ _ h => h)); (focus ((intro w hSw); (try dsimp only at hSw); (first | (go_simp; done) | (go_simp; with_reducible rfl)))); (try simp only [Act.put, List.setIfInBounds_toArray, List.set_cons_zero, List.set_cons_succ]))
                  (refine wpAnyH_take (i := 10) (v := ?_) (by simp only [List.getElem?_toArray, List.getElem?_cons_succ, List.getElem?_cons_zero]; rfl) (by kernel_rfl) (by kernel_rfl) (by kernel_rfl) ?_ (Or.inl ⟨by rfl, ?_⟩) (by assumption) ?_; rotate_left; (focus (exact fun _ _ _ h => h)); (focus ((intro w hSw); (try dsimp only at hSw); (first | (go_simp; done) | (go_simp; with_reducible rfl)))); (try simp only [Act.put, List.setIfInBounds_toArray, List.set_cons_zero, List.set_cons_succ]))
                  refine wpAnyH_ready (rs := [11]) (by kernel_rfl) (by simp) ?_
                  refine AllReadyH.cons (by simp only [List.getElem?_toArray, List.getElem?_cons_succ, List.getElem?_cons_zero]; rfl) (fun K hK => ?_) AllReadyH.nil
                  go_simp
                  refine (HTH.out _ (HT.out.below E.below.drew)).mono ?_
                  rintro e wf ⟨rfl, hbf⟩
                  dsimp only
                  refine hK.out _ _ ⟨keep (w := wc.drew) hbf k0 klt, keep (w := wc.drew) hbf k1 klt, keep (w := wc.drew) hbf k2 klt⟩ (fun hHeld2 => ?_)
                  clear hK K hHeld
                  try simp only [Act.put, List.setIfInBounds_toArray, List.set_cons_zero, List.set_cons_succ]
                  (refine wpAnyH_take (i := 12) (v := ?_) (by simp only [List.getElem?_toArray, List.getElem?_cons_succ, List.getElem?_cons_zero]; rfl) (by kernel_rfl) (by kernel_rfl) (by kernel_rfl) ?_ (Or.inl ⟨by rfl, ?_⟩) (by assumption) ?_; rotate_left; (focus (exact fun _ _ _ h => h)); (focus ((intro w hSw); (try dsimp only at hSw); (first | (go_simp; done) | (go_simp; with_reducible rfl)))); (try simp only [Act.put, List.setIfInBounds_toArray, List.set_cons_zero, List.set_cons_succ]))
                  (refine wpAnyH_take (i := 13) (v := ?_) (by simp only [List.getElem?_toArray, List.getElem?_cons_succ, List.getElem?_cons_zero]; rfl) (by kernel_rfl) (by kernel_rfl) (by kernel_rfl) ?_ (Or.inl ⟨by rfl, ?_⟩) (by assumption) ?_; rotate_left; (focus (exact fun _ _ _ h => h)); (focus ((intro w hSw); (try dsimp only at hSw); (first | (go_simp; done) | (go_simp; with_reducible rfl)))); (try simp only [Act.put, List.setIfInBounds_toArray, List.set_cons_zero, List.set_cons_succ]))
                  refine wpAnyH_skip (by kernel_rfl) (fun _ _ _ d h => by cases d <;> exact h) [14, 15, 16, 17, 18, 19, 20, 21, 22, 23, 24, 25, 26] _ _ _ _ (by kernel_rfl) (by assumption) ?_
                  simp only [skipL, skipA, skipOne, List.getElem?_toArray, List.getElem?_cons_succ, List.getElem?_cons_zero, Option.bind_some, Act.put, List.setIfInBounds_toArray, List.set_cons_zero, List.set_cons_succ]
                  (refine wpAnyH_take (i := 27) (v := ?_) (by simp only [List.getElem?_toArray, List.getElem?_cons_succ, List.getElem?_cons_zero]; rfl) (by kernel_rfl) (by kernel_rfl) (by kernel_rfl) ?_ (Or.inl ⟨by rfl, ?_⟩) (by assumption) ?_; rotate_left; (focus (exact fun _ _ _ h => h)); (focus ((intro w hSw); (try dsimp only at hSw); (first | (go_simp; done) | (go_simp; with_reducible rfl)))); (try simp only [Act.put, List.setIfInBounds_toArray, List.set_cons_zero, List.set_cons_succ]))
                  refine wpAnyH_done (by kernel_rfl) ?_ _
                  have E' : LoEnv w l.length H (.slice a np cp) wf := E.keep ((Below.refl wc.heap.size wc).drew.trans hbf)
                  have hown' := own_keep HOWN.out ((Below.refl wc.heap.size wc).drew.trans hbf)
                  clear hHeld2 hbf E hBw k0 k1 k2 kf klt HOWN
                  obtain ⟨k0, k1, k2, kf, klt⟩ := E'.img.d3
                  by_cases hn0 : 0 < n
                  · have hd0 : decide (0 < (n : Int)) = true := by simp; omega
                    go_wp2_with fail
                    refine (HTH.out _ (HT.out.below E'.below)).mono ?_
                    rintro e wh ⟨rfl, hbh⟩
                    have E2 := E'.keep hbh
                    have hown2 := own_keep hown' hbh
                    clear E' hown' hbh k0 k1 k2 kf klt
                    dsimp only
                    have hszX := E2.img.lt
                    go_wp2_with (at_builtin; refine wp_app1 _ rfl _ _ 25 rfl (w.heap.size + 1) 3 (.int .i64 0) 1 8 Tryz.underlying25 Tryz.infoInt rfl (by decide) (by decide) _ _ _ rfl (hown2.alloc _) _ [.int .i64 (-1)] rfl rfl (Blk.new _ _ _) (by simp [Value.oneCell']) (by omega) (by simp; omega) ?_; intro v' w4 hown4 hg4)
                    have hbb4 : Below (w.heap.size + 1) wh w4 := ((Below.refl (w.heap.size + 1) wh).alloc (by omega) _).grown hg4 (by simp; omega) (fun j hj => (hown2.lt j hj).1)
                    refine ⟨⟨k + 1, o ++ [-1], by go_num, by omega, by simp [hol], HE1.out, ⟨E2.below.trans (hbb4.mono (by omega)), E2.img.keep hbb4 (by omega)⟩, ?_⟩, by simp [intOf]; omega⟩
                    rw [List.map_append]; exact hown4
                  · have hd0 : decide (0 < (n : Int)) = false := by simp; omega
                    have hszX := E'.img.lt
                    go_wp2_with (at_builtin; refine wp_app1 _ rfl _ _ 25 rfl (w.heap.size + 1) 3 (.int .i64 0) 1 8 Tryz.underlying25 Tryz.infoInt rfl (by decide) (by decide) _ _ _ rfl (hown'.alloc _) _ [.int .i64 (-1)] rfl rfl (Blk.new _ _ _) (by simp [Value.oneCell']) (by omega) (by simp; omega) ?_; intro v' w4 hown4 hg4)
                    have hbb4 : Below (w.heap.size + 1) wf w4 := ((Below.refl (w.heap.size + 1) wf).alloc (by omega) _).grown hg4 (by simp; omega) (fun j hj => (hown'.lt j hj).1)
                    refine ⟨⟨k + 1, o ++ [-1], by go_num, by omega, by simp [hol], HE1.out, ⟨E'.below.trans (hbb4.mono (by omega)), E'.img.keep hbb4 (by omega)⟩, ?_⟩, by simp [intOf]; omega⟩
                    rw [List.map_append]; exact hown4
              · have hd4 : decide ((n : Int) ≤ 4 * s) = false := by simpa using hn4
                have HE1 := Lib.hid (HED.out (-1) ⟨n, by omega, hall.out, fun _ => by omega, by rw [if_neg (by omega)]⟩)
                have hn0 : decide (0 < (n : Int)) = true := by simp; omega
                clear hall hTH
                go_wp2_with fail
                go_quiet (fail)
                generalize hWq : World.drewN wc _ = X
                have hbq : Below wc.heap.size wc X := by rw [← hWq]; exact below_drewN (Below.refl _ _) _
                have E' := E.keep hbq
                have hown' := own_keep HOWN.out hbq
                clear hWq hbq E hBw k0 k1 k2 kf klt HOWN
                have hszX := E'.img.lt
                go_wp2_with (at_builtin; refine wp_app1 _ rfl _ _ 25 rfl (w.heap.size + 1) 3 (.int .i64 0) 1 8 Tryz.underlying25 Tryz.infoInt rfl (by decide) (by decide) _ _ _ rfl (hown'.alloc _) _ [.int .i64 (-1)] rfl rfl (Blk.new _ _ _) (by simp [Value.oneCell']) (by omega) (by simp; omega) ?_; intro v' w4 hown4 hg4)
                have hbb4 : Below (w.heap.size + 1) X w4 := ((Below.refl (w.heap.size + 1) X).alloc (by omega) _).grown hg4 (by simp; omega) (fun j hj => (hown'.lt j hj).1)
                refine ⟨⟨k + 1, o ++ [-1], by go_num, by omega, by simp [hol], HE1.out, ⟨E'.below.trans (hbb4.mono (by omega)), E'.img.keep hbb4 (by omega)⟩, ?_⟩, by simp [intOf]; omega⟩
                rw [List.map_append]; exact hown4
          · obtain rfl : k = N := by omega
            have hEA : EdgesAre l.length H px l s R o := ⟨by rw [hol]; exact HN.out.symm, f, HFT.out, fun j hj => by rw [← HBS.out]; exact hed.out j (by omega)⟩
            have hVO := hEA.ok h2 (by have := HN.out; omega)
            have HEA := Lib.hid hEA
            have hown' := hown
            rw [← hol] at hown'
            have HRD := Lib.hid (own_reads hown')
            have HVO := Lib.hid hVO
            have hBE := Lib.hid E.below
            have hd0 : decide ((k : Int) < (k : Int)) = false := by simp
            clear hEA hed hVO hown' hown E
            go_wp2_with fail
            refine (filled_any _ o wb HVO.out HRD.out).mono ?_
            rintro e w7 ⟨u, rfl, hou, hb7⟩
            have hBf := binto hBE.out hb7
            have hsz := hBE.out.size
            dsimp only
            go_wp2_with fail
            go_ret
            rw [fillF_len] at hou
            exact ⟨o, HEA.out, u, rfl, own_base hou hsz, hBf⟩

end Go.Proofs.YtnfgedbcfclnmaaGreat

namespace Go.Proofs.YtnfgedbcfclnmaaGreat
open Go.RowKit

theorem fillF_wide {out : List Int} (h : ValsOk out) (hlo : ∀ v ∈ out, -1 ≤ v) (k : Nat) : -1 ≤ (fillF out).getD k 0 ∧ (fillF out).getD k 0 ≤ 1000000000 := by
  by_cases hk : k < out.length
  · rw [fillF_get hk]
    unfold fillV
    split
    · rename_i h0
      have := h.hi _ (List.mem_of_getElem? (getD_some (d := 0) hk))
      omega
    · rename_i h0
      refine ⟨fillAt_ge, ?_⟩
      by_cases hex : ∃ v, OnlyV (ptsTo out out.length) k v
      · obtain ⟨v, hv⟩ := hex
        rw [fillAt_only hv]
        obtain ⟨c, hc⟩ := hv.2.2.1
        have hl := h.len
        have := PossV.bound (ptsTo_small h.hi h.len (Nat.le_refl _)) (x := (k : Int)) ⟨by omega, by omega⟩ (ptsTo_ne (by omega)) hc hv.2.2.2.1
        omega
      · rw [fillAt_none (fun v hv => hex ⟨v, hv⟩)]; omega
  · have : (fillF out).getD k 0 = 0 := by simp [List.getD, List.getElem?_eq_none (by rw [fillF_len]; omega : (fillF out).length ≤ k)]
    rw [this]; omega

/-- The last of the accepted frames. -/
def LastF (acc : List (Nat × Fr)) (q : Nat × Fr) : Prop := acc = [] ∧ q = (0, [], 0, 0, []) ∨ ∃ rest, acc = rest ++ [q]

structure FoEnv (w : World) (iv : Array Value) (q : Nat × Fr) (tv lv : Value) (wx : World) : Prop where
  below : Below w.heap.size w wx
  img : Blk wx w.heap.size iv 24
  res : Blk wx (w.heap.size + 1) #[.int .i64 0, .int .i64 0, .int .i64 0, .slice none 0 0, .slice none 0 0] 27
  out : Blk wx (w.heap.size + 1 + 1) #[.int .i64 q.1, .int .i64 q.2.2.1, .int .i64 q.2.2.2.1, tv, lv] 27
  t : Reads (Value.int .i64) wx tv q.2.1
  l : Reads (Value.int .i64) wx lv q.2.2.2.2
  t2 : ∀ g o n c, tv = .slice (some ⟨g, o, none⟩) n c → w.heap.size + 1 + 1 < g
  l2 : ∀ g o n c, lv = .slice (some ⟨g, o, none⟩) n c → w.heap.size + 1 + 1 < g
theorem FoEnv.keep {w wx w1 : World} {iv : Array Value} {q : Nat × Fr} {tv lv : Value} (h : FoEnv w iv q tv lv wx) (hb : Below wx.heap.size wx w1) : FoEnv w iv q tv lv w1 :=
  ⟨binto h.below hb, h.img.keep hb h.img.lt, h.res.keep hb h.res.lt, h.out.keep hb h.out.lt, h.t.below hb, h.l.below hb, h.t2, h.l2⟩

theorem reads_setV {f : Int → Value} {w : World} {v : Value} {l : List Int} {p : Addr} {x : Value} (h : Reads f w v l) (hne : ∀ g o n c, v = .slice (some ⟨g, o, none⟩) n c → p.block ≠ g) : Reads f (w.setCell p x) v l := by
  obtain ⟨a, cap, hv, h1, h2, h3⟩ := h
  rcases h3 with h3 | ⟨b, off, ha, hlt, hc⟩
  · exact ⟨a, cap, hv, h1, h2, .inl h3⟩
  · subst ha
    have := hne _ _ _ _ hv
    exact ⟨_, cap, hv, h1, h2, .inr ⟨_, off, rfl, by simpa using hlt, fun i y hy => (World.cell?_setCell_far _ _ _ _ this).trans (hc i y hy)⟩⟩
theorem slice_ne {g o n c m : Nat} (h : m < g) : ∀ g' o' n' c', (Value.slice (some ⟨g, o, none⟩) n c) = .slice (some ⟨g', o', none⟩) n' c' → m < g' := by
  intro g' o' n' c' e
  simp only [Value.slice.injEq, Option.some.injEq, Addr.mk.injEq] at e
  omega
theorem FoEnv.set5 {w wx : World} {iv : Array Value} {q : Nat × Fr} {tv lv : Value} (h : FoEnv w iv q tv lv wx) (t : Nat) (l o : List Int) (s R : Int) {g1 o1 n1 c1 g2 o2 n2 c2 : Nat}
    (ht : Reads (Value.int .i64) wx (.slice (some ⟨g1, o1, none⟩) n1 c1) l) (hl : Reads (Value.int .i64) wx (.slice (some ⟨g2, o2, none⟩) n2 c2) o) (h1 : w.heap.size + 1 + 1 < g1) (h2 : w.heap.size + 1 + 1 < g2) :
    FoEnv w iv (t, l, s, R, o) (.slice (some ⟨g1, o1, none⟩) n1 c1) (.slice (some ⟨g2, o2, none⟩) n2 c2) (((((wx.setCell ⟨w.heap.size + 1 + 1, 0, none⟩ (.int .i64 t)).setCell ⟨w.heap.size + 1 + 1, 1, none⟩ (.int .i64 s)).setCell ⟨w.heap.size + 1 + 1, 2, none⟩ (.int .i64 R)).setCell ⟨w.heap.size + 1 + 1, 3, none⟩ (.slice (some ⟨g1, o1, none⟩) n1 c1)).setCell ⟨w.heap.size + 1 + 1, 4, none⟩ (.slice (some ⟨g2, o2, none⟩) n2 c2)) := by
  have m1 : ∀ g o n c, (Value.slice (some ⟨g1, o1, none⟩) n1 c1) = .slice (some ⟨g, o, none⟩) n c → w.heap.size + 1 + 1 ≠ g := fun g o n c e => by have := slice_ne h1 g o n c e; omega
  have m2 : ∀ g o n c, (Value.slice (some ⟨g2, o2, none⟩) n2 c2) = .slice (some ⟨g, o, none⟩) n c → w.heap.size + 1 + 1 ≠ g := fun g o n c e => by have := slice_ne h2 g o n c e; omega
  have n3 : w.heap.size ≤ w.heap.size + 1 + 1 := by omega
  exact ⟨((((h.below.setCell n3 _).setCell n3 _).setCell n3 _).setCell n3 _).setCell n3 _, h.img.o5 (by omega), h.res.o5 (by omega), h.out.s5,
    reads_setV (reads_setV (reads_setV (reads_setV (reads_setV ht m1) m1) m1) m1) m1, reads_setV (reads_setV (reads_setV (reads_setV (reads_setV hl m2) m2) m2) m2) m2, slice_ne h1, slice_ne h2⟩

theorem below_alloc_drew (w : World) (o : Obj) : Below w.drew.heap.size w.drew (w.alloc o).drew := below_alloc w.drew o

def FoundR (i : Img) (w : World) (e : Ending) (w' : World) : Prop :=
  ∃ xs, (∀ t, t < 8 → AccIs (upI i t) (xs t)) ∧ ∃ q tv lv, LastF (accL xs 8) q ∧ e = .returned (.tuple #[.agg #[.int .i64 (q.1 : Nat), .int .i64 q.2.2.1, .int .i64 q.2.2.2.1, tv, lv], .int .i64 ((accL xs 8).length : Nat)]) ∧ Reads (Value.int .i64) w' tv q.2.1 ∧ Reads (Value.int .i64) w' lv q.2.2.2.2 ∧ Below w.heap.size w w'

set_option maxRecDepth 100000 in
set_option maxHeartbeats 8000000 in
theorem found_any (W H : Nat) (a : Option Addr) (np cp : Nat) (px : List Int) (w : World) (h : ImgOk w W H (.slice a np cp) px) :
    Calls Tryz.prog 8 #[.agg #[.int .i64 W, .int .i64 H, .slice a np cp]] w (FoundR (W, H, px) w) := by
  have hio := h.iok
  have HIO := Lib.hid hio
  have HI := Lib.hid h
  clear h hio
  go_enter Tryz.func8, Tryz.ntmps8
  go_wp2_with fail
  generalize hW0 : World.alloc (World.alloc (World.alloc w _) _) _ = W0
  have E0 : FoEnv w #[.int .i64 W, .int .i64 H, .slice a np cp] (0, [], 0, 0, []) (.slice none 0 0) (.slice none 0 0) W0 := by
    rw [← hW0]
    exact ⟨(by repeat (first | (with_reducible exact Below.refl _ _) | (with_reducible assumption) | ((with_reducible refine Below.setCell ?_ ?_ _); rotate_left; (focus (first | omega | (simp; done) | (simp; omega)))) | (with_reducible refine Below.drew ?_) | (with_reducible refine below_drewN ?_ _) | ((with_reducible refine Below.alloc ?_ ?_ _); rotate_left; (focus (first | omega | (simp; done) | (simp; omega)))))), ((Blk.new _ _ _).alloc _).alloc _, (Blk.newAt _ _ (by simp)).alloc _, Blk.newAt _ _ (by simp), ⟨none, 0, rfl, by simp, by simp, .inl rfl⟩, ⟨none, 0, rfl, by simp, by simp, .inl rfl⟩, fun g o n c e => by simp at e, fun g o n c e => by simp at e⟩
  clear hW0
  go_loopw [5, 6, 7, 8, 9, 10, 11, 12, 13] (fun x z _ _ _ _ _ _ _ wr => ∃ (k : Nat) (xs : Nat → Option Fr) (q : Nat × Fr) (tv lv : Value), z = .int .i64 k ∧ k ≤ 8 ∧ x = .int .i64 (((accL xs k).length : Nat) : Int) ∧ Hid (∀ t, t < k → AccIs (upI (W, H, px) t) (xs t)) ∧ LastF (accL xs k) q ∧ FoEnv w #[.int .i64 W, .int .i64 H, .slice a np cp] q tv lv wr) (fun _ z _ _ _ _ _ _ _ _ => 8 - (intOf z).toNat)
  case atStart => exact ⟨0, fun _ => none, (0, [], 0, 0, []), _, _, rfl, by omega, rfl, fun t ht => by omega, .inl ⟨rfl, rfl⟩, E0⟩
  case round =>
    clear E0
    obtain ⟨k, xs, q, tv, lv, rfl, hk, rfl, HX, HLA, E⟩ := hrel
    obtain ⟨wb, rfl⟩ : ∃ wo : World, wo = wr := ⟨_, rfl⟩
    have HLA := Lib.hid HLA
    by_cases hlt : k < 8
    · have hd1 : decide ((k : Int) < 8) = true := by simp; omega
      obtain ⟨u, hu⟩ : ∃ u : Nat, invF k = (u : Int) := ⟨(invF k).toNat, by have := inv_rng (t := (k : Int)) ⟨by omega, by omega⟩; omega⟩
      have hu8 : u < 8 := by have := inv_rng (t := (k : Int)) ⟨by omega, by omega⟩; omega
      obtain ⟨j, hj⟩ : ∃ j, j = upI (W, H, px) k := ⟨_, rfl⟩
      have hjo : IOk j := by rw [hj]; exact HIO.out.turn _
      have hju : j = turnI (W, H, px) u := by rw [hj, upI, hu]; simp
      have hUN := fun wz => undone_any k wz hlt
      rw [hu] at hUN
      have hTU := fun wz hr => turned_all (W, H, px) (a := a) (np := np) (cp := cp) (w := wz) u HIO.out hr hu8
      rw [← hju] at hTU
      have HUN := Lib.hid hUN
      have HTU := Lib.hid hTU
      have HJO := Lib.hid hjo
      have HJ := Lib.hid hj
      have hlen := accL_len xs k
      clear hUN hTU hj hju hu hu8 hjo
      obtain ⟨k0, k1, k2, kf, klt⟩ := E.img.d3
      go_upto_region 6 with fail
      go_cut [7] (fun u7 wx => ∃ bU g : Nat, u7 = .pointer (some ⟨bU, 0, none⟩) ∧ w.heap.size + 1 + 1 < bU ∧ Blk wx bU #[.int .i64 (j.1 : Int), .int .i64 (j.2.1 : Int), .slice (some ⟨g, 0, none⟩) j.2.2.length j.2.2.length] 24 ∧ LBlk wx g (j.2.2.map (Value.int .u8)) 5 ∧ FoEnv w #[.int .i64 W, .int .i64 H, .slice a np cp] q tv lv wx)
      case first =>
        have k0' : wb.drew.cell? ⟨w.heap.size, 0, none⟩ = some (.int .i64 (W : Int)) := k0
        have k1' : wb.drew.cell? ⟨w.heap.size, 1, none⟩ = some (.int .i64 (H : Int)) := k1
        have k2' : wb.drew.cell? ⟨w.heap.size, 2, none⟩ = some (.slice a np cp) := k2
        have klt' : w.heap.size < wb.drew.heap.size := klt
        have hB4 : Below w.heap.size w wb.drew := E.below.drew
        clear k0 k1 k2 kf klt
        go_region_held3 (fun w' => w'.cell? ⟨w.heap.size, 0, none⟩ = some (.int .i64 (W : Int)) ∧ w'.cell? ⟨w.heap.size, 1, none⟩ = some (.int .i64 (H : Int)) ∧ w'.cell? ⟨w.heap.size, 2, none⟩ = some (.slice a np cp))
          (first | exact ⟨k0', k1', k2'⟩ | exact ⟨keep (by first | exact Below.refl _ _ | exact hbu | exact binto hbu hbt | exact below_alloc _ _ | exact below_alloc_drew _ _ | exact binto hbu (below_alloc _ _) | exact binto (binto hbu hbt) (below_alloc _ _) | exact binto (below_alloc_drew _ _) hbu | exact binto (binto (below_alloc_drew _ _) hbu) hbt | exact binto (binto hbu (below_alloc _ _)) hbt | exact ((((binto (binto (below_alloc_drew _ _) hbu) hbt).setCell (by simp) _).setCell (by simp) _).setCell (by simp) _) | exact ((((binto (binto hbu (below_alloc _ _)) hbt).setCell hbu.size _).setCell hbu.size _).setCell hbu.size _)) k0' klt', keep (by first | exact Below.refl _ _ | exact hbu | exact binto hbu hbt | exact below_alloc _ _ | exact below_alloc_drew _ _ | exact binto hbu (below_alloc _ _) | exact binto (binto hbu hbt) (below_alloc _ _) | exact binto (below_alloc_drew _ _) hbu | exact binto (binto (below_alloc_drew _ _) hbu) hbt | exact binto (binto hbu (below_alloc _ _)) hbt | exact ((((binto (binto (below_alloc_drew _ _) hbu) hbt).setCell (by simp) _).setCell (by simp) _).setCell (by simp) _) | exact ((((binto (binto hbu (below_alloc _ _)) hbt).setCell hbu.size _).setCell hbu.size _).setCell hbu.size _)) k1' klt', keep (by first | exact Below.refl _ _ | exact hbu | exact binto hbu hbt | exact below_alloc _ _ | exact below_alloc_drew _ _ | exact binto hbu (below_alloc _ _) | exact binto (binto hbu hbt) (below_alloc _ _) | exact binto (below_alloc_drew _ _) hbu | exact binto (binto (below_alloc_drew _ _) hbu) hbt | exact binto (binto hbu (below_alloc _ _)) hbt | exact ((((binto (binto (below_alloc_drew _ _) hbu) hbt).setCell (by simp) _).setCell (by simp) _).setCell (by simp) _) | exact ((((binto (binto hbu (below_alloc _ _)) hbt).setCell hbu.size _).setCell hbu.size _).setCell hbu.size _)) k2' klt'⟩)
          (first | (go_at_call 23; refine (HUN.out _).mono ?_; rintro e wu ⟨rfl, hbu⟩) | (go_at_call 22; refine (HTU.out _ (HI.out.below (binto hB4 (by first | exact Below.refl _ _ | exact hbu | exact binto hbu hbt | exact below_alloc _ _ | exact below_alloc_drew _ _ | exact binto hbu (below_alloc _ _) | exact binto (binto hbu hbt) (below_alloc _ _) | exact binto (below_alloc_drew _ _) hbu | exact binto (binto (below_alloc_drew _ _) hbu) hbt | exact binto (binto hbu (below_alloc _ _)) hbt | exact ((((binto (binto (below_alloc_drew _ _) hbu) hbt).setCell (by simp) _).setCell (by simp) _).setCell (by simp) _) | exact ((((binto (binto hbu (below_alloc _ _)) hbt).setCell hbu.size _).setCell hbu.size _).setCell hbu.size _)))).rd).mono ?_; rintro e wt ⟨g, rfl, hg, hLp, hbt⟩; first | (obtain ⟨z0, z1, z2, zf, zlt⟩ := (((Blk.new wb #[.int .i64 0, .int .i64 0, .slice none 0 0] 24).drew.keep hbu (by simp)).keep hbt (Nat.lt_of_lt_of_le (by simp) hbu.size)).d3) | (obtain ⟨z0, z1, z2, zf, zlt⟩ := ((Blk.new wu #[.int .i64 0, .int .i64 0, .slice none 0 0] 24).keep hbt (by simp)).d3) | skip))
        all_goals go_wp2_with fail
        all_goals go_meet
        · have hbw : Below wb.heap.size wb (wt.alloc (.cells #[.int .i64 (j.1 : Int), .int .i64 (j.2.1 : Int), .slice (some ⟨g, 0, none⟩) j.2.2.length j.2.2.length] 24)) := (Below.refl wb.heap.size wb).drew.trans (binto (binto hbu hbt) (below_alloc _ _))
          have hr := E.out.lt
          have hs := (binto hbu hbt).size
          exact ⟨_, g, rfl, Nat.lt_of_lt_of_le hr hs, Blk.new _ _ _, hLp.alloc _, E.keep hbw⟩
        · have hr := E.out.lt
          have hs : wb.heap.size ≤ wu.heap.size := hbu.size
          have hZ := (Blk.new wu #[.int .i64 0, .int .i64 0, .slice none 0 0] 24).keep hbt (by simp)
          have hg' : wu.heap.size < g := by simp at hg; omega
          have hbw : Below wb.heap.size wb (((wt.setCell ⟨wu.heap.size, 0, none⟩ (.int .i64 (j.1 : Int))).setCell ⟨wu.heap.size, 1, none⟩ (.int .i64 (j.2.1 : Int))).setCell ⟨wu.heap.size, 2, none⟩ (.slice (some ⟨g, 0, none⟩) j.2.2.length j.2.2.length)) :=
            ((((Below.refl wb.heap.size wb).drew.trans (binto (binto hbu (below_alloc _ _)) hbt)).setCell hs _).setCell hs _).setCell hs _
          exact ⟨_, g, rfl, Nat.lt_of_lt_of_le hr hs, hZ.s3, ((hLp.set_other (by simp; omega) _).set_other (by simp; omega) _).set_other (by simp; omega) _, E.keep hbw⟩
        · have hr := E.out.lt
          have hs := hbu.size
          have hZ := ((Blk.new wb #[.int .i64 0, .int .i64 0, .slice none 0 0] 24).drew.keep hbu (by simp)).keep hbt (Nat.lt_of_lt_of_le (by simp) hbu.size)
          have hg' : wb.heap.size < g := by simp at hs; omega
          have hbw : Below wb.heap.size wb (((wt.setCell ⟨wb.heap.size, 0, none⟩ (.int .i64 (j.1 : Int))).setCell ⟨wb.heap.size, 1, none⟩ (.int .i64 (j.2.1 : Int))).setCell ⟨wb.heap.size, 2, none⟩ (.slice (some ⟨g, 0, none⟩) j.2.2.length j.2.2.length)) :=
            ((((Below.refl wb.heap.size wb).drew.trans (binto (binto (below_alloc_drew _ _) hbu) hbt)).setCell (Nat.le_refl _) _).setCell (Nat.le_refl _) _).setCell (Nat.le_refl _) _
          exact ⟨_, g, rfl, hr, hZ.s3, ((hLp.set_other (by simp; omega) _).set_other (by simp; omega) _).set_other (by simp; omega) _, E.keep hbw⟩
      case rest =>
        clear E k0 k1 k2 kf klt HUN HTU
        obtain ⟨bU, g, rfl, hbU, U, hLp, E⟩ := hcut
        have hI := HJO.out.imgL hLp
        have HI2 := Lib.hid hI
        obtain ⟨u0, u1, u2, uf, ult⟩ := U.d3
        clear hI
        go_wp2_with fail
        refine (topsOf_any _ _ _ _ _ _ _ HI2.out).mono ?_
        rintro e w3 ⟨rs, o, hst, hcols, hb3, ho⟩
        have hcf : ColsFor j o := ⟨rs, hst, hcols⟩
        clear hst hcols
        rcases o with _ | ⟨l, s, R⟩
        · dsimp only at ho
          subst ho
          have hacc : AccIs (upI (W, H, px) k) none := by rw [← HJ.out]; exact ⟨none, hcf, .inl ⟨rfl, rfl⟩⟩
          have HACC := Lib.hid hacc
          have E3 := E.keep hb3
          clear hcf hacc E hb3 U hLp HI2 u0 u1 u2 uf ult
          dsimp only
          go_wp2_with fail
          go_roundw
          case rel =>
            have hcg : accL (fun t => if t = k then none else xs t) k = accL xs k := accL_congr fun t ht => if_neg (by omega)
            have hs : accL (fun t => if t = k then none else xs t) (k + 1) = accL xs k := by rw [accL_succ, hcg, if_pos rfl]; simp
            refine ⟨k + 1, fun t => if t = k then none else xs t, q, tv, lv, by go_num, by omega, by rw [hs], fun t ht => ?_, by rw [hs]; exact HLA.out, E3⟩
            dsimp only
            by_cases e : t = k
            · rw [if_pos e, e]; exact HACC.out
            · rw [if_neg e]; exact HX.out t (by omega)
          case measure => simp [intOf]; omega
        · obtain ⟨v, rfl, hov⟩ := ho
          obtain ⟨hok, hlen2, hs, hR⟩ := hcf.ok HJO.out
          have hw2 := HJO.out.w2
          have hrd := own_reads hov
          have hju1 := HJO.out.w1
          obtain ⟨ga, c1, rfl, hga, -⟩ := own_some hov (by omega)
          have hgb1 : w.heap.size + 1 + 1 < ga := Nat.lt_of_lt_of_le E.out.lt hga
          clear hju1 hga
          have HLO := Lib.hid (fun wz hI hT => leftsOf_any j.1 j.2.1 (some ⟨g, 0, none⟩) j.2.2.length j.2.2.length (.slice (some ⟨ga, 0, none⟩) l.length c1) j.2.2 l s R wz hI hT (by omega) hok hs hR)
          have hsz : (s == 0) = false := by simp; omega
          have HRD := Lib.hid hrd
          have HCF := Lib.hid hcf
          have HSR := Lib.hid (And.intro hs hR)
          have HOK := Lib.hid (And.intro hok hlen2)
          have E3 := E.keep hb3
          have U3 := U.keep hb3 U.lt
          have hL3 := hLp.keep hb3 hLp.lt
          obtain ⟨u0, u1, u2, uf, ult⟩ := U3.d3
          clear hov hrd hcf hs hR hok hlen2 E U hLp HI2 hb3 hw2
          dsimp only
          go_wp2_with fail
          refine (HLO.out _ (HJO.out.imgL hL3) HRD.out).mono ?_
          rintro e w4 ⟨out, hED, lv', rfl, hol, hb4⟩
          have hol' : w4.ownsRow w3.heap.size 3 1 lv' (fillF out).length ((fillF out).map (Value.int .i64)) := by rw [fillF_len]; exact hol
          have hrl := own_reads hol'
          have hoL : 0 < (fillF out).length := by
            rw [fillF_len]
            have h1 := hED.1
            obtain ⟨h2, h3⟩ := HSR.out
            rcases h3 with rfl | rfl <;> omega
          obtain ⟨gb, c2, rfl, hgb, -⟩ := own_some hol' hoL
          have hgb2 : w.heap.size + 1 + 1 < gb := Nat.lt_of_lt_of_le E3.out.lt hgb
          clear hoL hgb
          have E4 := E3.keep hb4
          have U4 := U3.keep hb4 U3.lt
          have hL4 := hL3.keep hb4 hL3.lt
          have hrd4 := HRD.out.below hb4
          have HED := Lib.hid hED
          have HRL := Lib.hid hrl
          have HRD4 := Lib.hid hrd4
          clear u0 u1 u2 uf ult E3 U3 hL3 hb4 hol hol' hrl hrd4 hED HRD HLO
          obtain ⟨u0, u1, u2, uf, ult⟩ := U4.d3
          have ult1 : bU < w4.heap.size + 1 := by omega
          dsimp only
          go_wp2_with fail
          generalize hW5 : World.alloc w4 _ = W5
          have hb5 : Below w4.heap.size w4 W5 := by rw [← hW5]; exact below_alloc _ _
          have E5 := E4.keep hb5
          have X5 : Blk W5 w4.heap.size #[.int .i64 (k : Int), .int .i64 s, .int .i64 R, .slice (some ⟨ga, 0, none⟩) l.length c1, .slice (some ⟨gb, 0, none⟩) (fillF out).length c2] 27 := by rw [← hW5]; exact Blk.new _ _ _
          have hL5 := hL4.keep hb5 hL4.lt
          have hT5 := HRD4.out.below hb5
          have hO5 := HRL.out.below hb5
          have hbx : w.heap.size + 1 + 1 < w4.heap.size := E4.out.lt
          obtain ⟨bX, hbX⟩ : ∃ b, b = w4.heap.size := ⟨_, rfl⟩
          rw [← hbX] at X5 hbx ⊢
          have hRs : R * s ≤ 510 := by
            obtain ⟨h1, h2⟩ := HSR.out
            rcases h2 with rfl | rfl <;> omega
          have hvo : ValsOk out := HED.out.ok (by have := HJO.out.w2; omega) hRs
          have hlo : ∀ v ∈ out, -1 ≤ v := fun v hv => by
            obtain ⟨h1, f, hf, h2⟩ := HED.out
            obtain ⟨i, hi, rfl⟩ := List.getElem_of_mem hv
            have := ((h2 i hi).bound (by have := HJO.out.w2; omega)).1
            simpa [List.getD, hi] using this
          have hAN := agreeing_any j.1 j.2.1 k s R (some ⟨g, 0, none⟩) j.2.2.length j.2.2.length (.slice (some ⟨ga, 0, none⟩) l.length c1) (.slice (some ⟨gb, 0, none⟩) (fillF out).length c2) j.2.2 l (fillF out) W5 (HJO.out.imgL hL5) hT5 hO5 (by rw [HOK.out.2]) HOK.out.1 (fillF_wide hvo hlo) HSR.out.1 HSR.out.2 (by rw [fillF_len]; exact HED.out.1)
          have hacc : AccIs (upI (W, H, px) k) (if 3 * allN (levN R) ≤ 4 * agreeN j.1 j.2.1 j.2.2 l (fillF out) s (levN R) then some (l, s, R, fillF out) else none) := by rw [← HJ.out]; exact accIs_ref HJO.out HCF.out HED.out
          have hnA : agreeN j.1 j.2.1 j.2.2 l (fillF out) s (levN R) ≤ 4930 := Nat.le_trans List.countP_le_length (by rcases HSR.out.2 with h | h <;> rw [h] <;> decide)
          have hnB : allN (levN R) ≤ 4930 := Nat.le_trans List.countP_le_length (by rcases HSR.out.2 with h | h <;> rw [h] <;> decide)
          generalize agreeN j.1 j.2.1 j.2.2 l (fillF out) s (levN R) = nA at hAN hacc hnA
          generalize allN (levN R) = nB at hAN hacc hnB
          have HAN := Lib.hid hAN
          have HACC := Lib.hid hacc
          have HT5 := Lib.hid hT5
          have HO5 := Lib.hid hO5
          clear hAN hacc hT5 hO5 hvo hlo hRs hbX hW5 hb5 E4 U4 hL4 hL5 HRD4 HRL u0 u1 u2 uf ult ult1 HED HCF
          refine HAN.out.mono ?_
          rintro e w6 ⟨rfl, hb6⟩
          have E6 := E5.keep hb6
          have X6 := X5.keep hb6 X5.lt
          have HT6 := Lib.hid (HT5.out.below hb6)
          have HO6 := Lib.hid (HO5.out.below hb6)
          obtain ⟨x0, x1, x2, x3, x4, xf, xlt⟩ := X6.d5
          obtain ⟨o0, o1, o2, o3, o4, of, olt⟩ := E6.out.d5
          clear E5 X5 hb6 HAN HT5 HO5
          dsimp only
          by_cases hge : 3 * nB ≤ 4 * nA
          · have hd2 : decide (3 * (nB : Int) ≤ 4 * (nA : Int)) = true := by simp; omega
            have hacc' := HACC.out
            rw [if_pos hge] at hacc'
            have HA2 := Lib.hid hacc'
            clear hacc' HACC
            go_wp2_with fail
            go_roundw
            case rel =>
              have hcg : accL (fun t => if t = k then some (l, s, R, fillF out) else xs t) k = accL xs k := accL_congr fun t ht => if_neg (by omega)
              have hs : accL (fun t => if t = k then some (l, s, R, fillF out) else xs t) (k + 1) = accL xs k ++ [(k, l, s, R, fillF out)] := by rw [accL_succ, hcg, if_pos rfl]; simp
              refine ⟨k + 1, fun t => if t = k then some (l, s, R, fillF out) else xs t, (k, l, s, R, fillF out), _, _, by go_num, by omega, by rw [hs]; simp, fun t ht => ?_, .inr ⟨_, hs⟩, E6.set5 k l (fillF out) s R HT6.out HO6.out hgb1 hgb2⟩
              dsimp only
              by_cases e : t = k
              · rw [if_pos e, e]; exact HA2.out
              · rw [if_neg e]; exact HX.out t (by omega)
            case measure => simp [intOf]; omega
          · have hd2 : decide (3 * (nB : Int) ≤ 4 * (nA : Int)) = false := by simp; omega
            have hacc' := HACC.out
            rw [if_neg hge] at hacc'
            have HA2 := Lib.hid hacc'
            clear hacc' HACC
            go_wp2_with fail
            go_roundw
            case rel =>
              have hcg : accL (fun t => if t = k then none else xs t) k = accL xs k := accL_congr fun t ht => if_neg (by omega)
              have hs : accL (fun t => if t = k then none else xs t) (k + 1) = accL xs k := by rw [accL_succ, hcg, if_pos rfl]; simp
              refine ⟨k + 1, fun t => if t = k then none else xs t, q, tv, lv, by go_num, by omega, by rw [hs], fun t ht => ?_, by rw [hs]; exact HLA.out, E6⟩
              dsimp only
              by_cases e : t = k
              · rw [if_pos e, e]; exact HA2.out
              · rw [if_neg e]; exact HX.out t (by omega)
            case measure => simp [intOf]; omega
    · obtain rfl : k = 8 := by omega
      obtain ⟨r0, r1, r2, r3, r4, rf, rlt⟩ := E.res.d5
      obtain ⟨o0, o1, o2, o3, o4, of, olt⟩ := E.out.d5
      have hB := E.below
      have HET := Lib.hid E.t
      have HEL := Lib.hid E.l
      have ht2 : ∀ g o n c, tv = .slice (some ⟨g, o, none⟩) n c → w.heap.size + 1 ≠ g := fun g o n c e => by have := E.t2 g o n c e; omega
      have hl2 : ∀ g o n c, lv = .slice (some ⟨g, o, none⟩) n c → w.heap.size + 1 ≠ g := fun g o n c e => by have := E.l2 g o n c e; omega
      have HT2 := Lib.hid ht2
      have HL2 := Lib.hid hl2
      clear ht2 hl2
      obtain ⟨ta, tc, rfl, -⟩ := id E.t
      obtain ⟨la, lc, rfl, -⟩ := id E.l
      have hlen := accL_len xs 8
      generalize hnn : (accL xs 8).length = nn at *
      have HNN := Lib.hid hnn
      clear hnn
      go_wp2_with fail
      exact bodyPost_ret (v := .tuple #[.agg #[.int .i64 (q.1 : Nat), .int .i64 q.2.2.1, .int .i64 q.2.2.2.1, .slice ta q.2.1.length tc, .slice la q.2.2.2.2.length lc], .int .i64 (nn : Int)]) (by simp [results, Tryz.results8, go_sem, r0, r1, r2, r3, r4, rf, rlt]) rfl
        ⟨xs, HX.out, q, _, _, HLA.out, by rw [HNN.out], reads_setV (reads_setV (reads_setV (reads_setV (reads_setV HET.out HT2.out) HT2.out) HT2.out) HT2.out) HT2.out, reads_setV (reads_setV (reads_setV (reads_setV (reads_setV HEL.out HL2.out) HL2.out) HL2.out) HL2.out) HL2.out, (by repeat (first | (with_reducible exact Below.refl _ _) | (with_reducible assumption) | ((with_reducible refine Below.setCell ?_ ?_ _); rotate_left; (focus (first | omega | (simp; done) | (simp; omega)))) | (with_reducible refine Below.drew ?_) | (with_reducible refine below_drewN ?_ _) | ((with_reducible refine Below.alloc ?_ ?_ _); rotate_left; (focus (first | omega | (simp; done) | (simp; omega))))))⟩

end Go.Proofs.YtnfgedbcfclnmaaGreat

namespace Go.Proofs.YtnfgedbcfclnmaaGreat
open Go.RowKit

theorem imageFault_cases (W H : Int) (n : Nat) : imageFaultF W H n = (0, 0) ∨ imageFaultF W H n = (4, -1) ∨ imageFaultF W H n = (4, -2) ∨ imageFaultF W H n = (9, -3) := by
  unfold imageFaultF
  repeat' split
  all_goals simp
theorem imageFault_ok {W H : Int} {n : Nat} (h : imageFaultF W H n = (0, 0)) : (1 ≤ W ∧ W ≤ 640) ∧ (1 ≤ H ∧ H ≤ 640) ∧ (n : Int) = W * H := by
  unfold imageFaultF at h
  by_cases a : inB W 1 640 = true
  · rw [if_pos a] at h
    by_cases b : inB H 1 640 = true
    · rw [if_pos b] at h
      by_cases c : (n : Int) = W * H
      · simp only [inB, Bool.and_eq_true, decide_eq_true_eq] at a b
        exact ⟨a, b, c⟩
      · rw [if_neg c] at h; cases h
    · rw [if_neg b] at h; cases h
  · rw [if_neg a] at h; cases h

end Go.Proofs.YtnfgedbcfclnmaaGreat

namespace Go.Proofs.YtnfgedbcfclnmaaGreat
open Go.RowKit

set_option maxRecDepth 100000 in
set_option maxHeartbeats 4000000 in
theorem find_bad1 (W H : Int) (a : Option Addr) (np cp : Nat) (w : World) (h : imageFaultF W H np = (4, -1)) :
    Calls Tryz.prog 4 #[.agg #[.int .i64 W, .int .i64 H, .slice a np cp]] w fun e w' => e = .returned (.tuple #[.agg #[.int .i64 0, .int .i64 0, .int .i64 0, .slice none 0 0, .slice none 0 0], .agg #[.int .i64 4, .int .i64 (-1)]]) ∧ Below w.heap.size w w' := by
  have hV := validate_any W H a np cp
  rw [h] at hV
  have hV := Lib.hid hV
  clear h
  go_enter Tryz.func4, Tryz.ntmps4
  go_wp2_with fail
  generalize hW0 : World.alloc (World.alloc (World.alloc w _) _) _ = W0
  have S0 : Blk W0 (w.heap.size + 1) #[.int .i64 0, .int .i64 0, .int .i64 0, .slice none 0 0, .slice none 0 0] 27 := by rw [← hW0]; exact (Blk.newAt _ _ (by simp)).alloc _
  have R0 : Blk W0 (w.heap.size + 1 + 1) #[.int .i64 0, .int .i64 0] 29 := by rw [← hW0]; exact Blk.newAt _ _ (by simp)
  have hB0 : Below w.heap.size w W0 := by rw [← hW0]; exact (by repeat (first | (with_reducible exact Below.refl _ _) | (with_reducible assumption) | ((with_reducible refine Below.setCell ?_ ?_ _); rotate_left; (focus (first | omega | (simp; done) | (simp; omega)))) | (with_reducible refine Below.drew ?_) | (with_reducible refine below_drewN ?_ _) | ((with_reducible refine Below.alloc ?_ ?_ _); rotate_left; (focus (first | omega | (simp; done) | (simp; omega))))))
  clear hW0
  refine (hV.out W0).mono ?_
  rintro e w1 ⟨rfl, hb1⟩
  have R1 := R0.keep hb1 R0.lt
  have S1 := S0.keep hb1 S0.lt
  have hB1 := binto hB0 hb1
  have hfl := R1.lt
  have hsl := S1.lt
  clear R0 S0 hB0 hb1 hV
  dsimp only
  go_wp2_with fail
  generalize hW2 : World.alloc w1 _ = W2
  have D2 : Blk W2 w1.heap.size #[.int .i64 4, .int .i64 (-1)] 29 := by rw [← hW2]; exact Blk.new _ _ _
  have R2 : Blk W2 (w.heap.size + 1 + 1) #[.int .i64 0, .int .i64 0] 29 := by rw [← hW2]; exact R1.alloc _
  have S2 : Blk W2 (w.heap.size + 1) #[.int .i64 0, .int .i64 0, .int .i64 0, .slice none 0 0, .slice none 0 0] 27 := by rw [← hW2]; exact S1.alloc _
  have hB2 : Below w.heap.size w W2 := by rw [← hW2]; exact hB1.trans (below_alloc' hB1.size _)
  obtain ⟨r0, r1, rf, rlt⟩ := R2.d2
  obtain ⟨d0, d1, df, dlt⟩ := D2.d2
  obtain ⟨s0, s1, s2, s3, s4, sf, slt⟩ := S2.d5
  have hne1 : ¬ w.heap.size + 1 + 1 = w1.heap.size := by omega
  have hne2 : ¬ w1.heap.size = w.heap.size + 1 + 1 := by omega
  have hne3 : ¬ w.heap.size + 1 = w1.heap.size := by omega
  have hne4 : ¬ w1.heap.size = w.heap.size + 1 := by omega
  clear hW2 R1 R2 S1 S2 D2 hB1
  go_region
  all_goals go_wp2_with fail
  all_goals exact bodyPost_ret (v := .tuple #[.agg #[.int .i64 0, .int .i64 0, .int .i64 0, .slice none 0 0, .slice none 0 0], .agg #[.int .i64 4, .int .i64 (-1)]]) (by simp [results, Tryz.results4, go_sem, r0, r1, rf, rlt, s0, s1, s2, s3, s4, sf, slt]) rfl ⟨rfl, (by repeat (first | (with_reducible exact Below.refl _ _) | (with_reducible assumption) | ((with_reducible refine Below.setCell ?_ ?_ _); rotate_left; (focus (first | omega | (simp; done) | (simp; omega)))) | (with_reducible refine Below.drew ?_) | (with_reducible refine below_drewN ?_ _) | ((with_reducible refine Below.alloc ?_ ?_ _); rotate_left; (focus (first | omega | (simp; done) | (simp; omega))))))⟩

set_option maxRecDepth 100000 in
set_option maxHeartbeats 4000000 in
theorem find_bad2 (W H : Int) (a : Option Addr) (np cp : Nat) (w : World) (h : imageFaultF W H np = (4, -2)) :
    Calls Tryz.prog 4 #[.agg #[.int .i64 W, .int .i64 H, .slice a np cp]] w fun e w' => e = .returned (.tuple #[.agg #[.int .i64 0, .int .i64 0, .int .i64 0, .slice none 0 0, .slice none 0 0], .agg #[.int .i64 4, .int .i64 (-2)]]) ∧ Below w.heap.size w w' := by
  have hV := validate_any W H a np cp
  rw [h] at hV
  have hV := Lib.hid hV
  clear h
  go_enter Tryz.func4, Tryz.ntmps4
  go_wp2_with fail
  generalize hW0 : World.alloc (World.alloc (World.alloc w _) _) _ = W0
  have S0 : Blk W0 (w.heap.size + 1) #[.int .i64 0, .int .i64 0, .int .i64 0, .slice none 0 0, .slice none 0 0] 27 := by rw [← hW0]; exact (Blk.newAt _ _ (by simp)).alloc _
  have R0 : Blk W0 (w.heap.size + 1 + 1) #[.int .i64 0, .int .i64 0] 29 := by rw [← hW0]; exact Blk.newAt _ _ (by simp)
  have hB0 : Below w.heap.size w W0 := by rw [← hW0]; exact (by repeat (first | (with_reducible exact Below.refl _ _) | (with_reducible assumption) | ((with_reducible refine Below.setCell ?_ ?_ _); rotate_left; (focus (first | omega | (simp; done) | (simp; omega)))) | (with_reducible refine Below.drew ?_) | (with_reducible refine below_drewN ?_ _) | ((with_reducible refine Below.alloc ?_ ?_ _); rotate_left; (focus (first | omega | (simp; done) | (simp; omega))))))
  clear hW0
  refine (hV.out W0).mono ?_
  rintro e w1 ⟨rfl, hb1⟩
  have R1 := R0.keep hb1 R0.lt
  have S1 := S0.keep hb1 S0.lt
  have hB1 := binto hB0 hb1
  have hfl := R1.lt
  have hsl := S1.lt
  clear R0 S0 hB0 hb1 hV
  dsimp only
  go_wp2_with fail
  generalize hW2 : World.alloc w1 _ = W2
  have D2 : Blk W2 w1.heap.size #[.int .i64 4, .int .i64 (-2)] 29 := by rw [← hW2]; exact Blk.new _ _ _
  have R2 : Blk W2 (w.heap.size + 1 + 1) #[.int .i64 0, .int .i64 0] 29 := by rw [← hW2]; exact R1.alloc _
  have S2 : Blk W2 (w.heap.size + 1) #[.int .i64 0, .int .i64 0, .int .i64 0, .slice none 0 0, .slice none 0 0] 27 := by rw [← hW2]; exact S1.alloc _
  have hB2 : Below w.heap.size w W2 := by rw [← hW2]; exact hB1.trans (below_alloc' hB1.size _)
  obtain ⟨r0, r1, rf, rlt⟩ := R2.d2
  obtain ⟨d0, d1, df, dlt⟩ := D2.d2
  obtain ⟨s0, s1, s2, s3, s4, sf, slt⟩ := S2.d5
  have hne1 : ¬ w.heap.size + 1 + 1 = w1.heap.size := by omega
  have hne2 : ¬ w1.heap.size = w.heap.size + 1 + 1 := by omega
  have hne3 : ¬ w.heap.size + 1 = w1.heap.size := by omega
  have hne4 : ¬ w1.heap.size = w.heap.size + 1 := by omega
  clear hW2 R1 R2 S1 S2 D2 hB1
  go_region
  all_goals go_wp2_with fail
  all_goals exact bodyPost_ret (v := .tuple #[.agg #[.int .i64 0, .int .i64 0, .int .i64 0, .slice none 0 0, .slice none 0 0], .agg #[.int .i64 4, .int .i64 (-2)]]) (by simp [results, Tryz.results4, go_sem, r0, r1, rf, rlt, s0, s1, s2, s3, s4, sf, slt]) rfl ⟨rfl, (by repeat (first | (with_reducible exact Below.refl _ _) | (with_reducible assumption) | ((with_reducible refine Below.setCell ?_ ?_ _); rotate_left; (focus (first | omega | (simp; done) | (simp; omega)))) | (with_reducible refine Below.drew ?_) | (with_reducible refine below_drewN ?_ _) | ((with_reducible refine Below.alloc ?_ ?_ _); rotate_left; (focus (first | omega | (simp; done) | (simp; omega))))))⟩

set_option maxRecDepth 100000 in
set_option maxHeartbeats 4000000 in
theorem find_bad3 (W H : Int) (a : Option Addr) (np cp : Nat) (w : World) (h : imageFaultF W H np = (9, -3)) :
    Calls Tryz.prog 4 #[.agg #[.int .i64 W, .int .i64 H, .slice a np cp]] w fun e w' => e = .returned (.tuple #[.agg #[.int .i64 0, .int .i64 0, .int .i64 0, .slice none 0 0, .slice none 0 0], .agg #[.int .i64 9, .int .i64 (-3)]]) ∧ Below w.heap.size w w' := by
  have hV := validate_any W H a np cp
  rw [h] at hV
  have hV := Lib.hid hV
  clear h
  go_enter Tryz.func4, Tryz.ntmps4
  go_wp2_with fail
  generalize hW0 : World.alloc (World.alloc (World.alloc w _) _) _ = W0
  have S0 : Blk W0 (w.heap.size + 1) #[.int .i64 0, .int .i64 0, .int .i64 0, .slice none 0 0, .slice none 0 0] 27 := by rw [← hW0]; exact (Blk.newAt _ _ (by simp)).alloc _
  have R0 : Blk W0 (w.heap.size + 1 + 1) #[.int .i64 0, .int .i64 0] 29 := by rw [← hW0]; exact Blk.newAt _ _ (by simp)
  have hB0 : Below w.heap.size w W0 := by rw [← hW0]; exact (by repeat (first | (with_reducible exact Below.refl _ _) | (with_reducible assumption) | ((with_reducible refine Below.setCell ?_ ?_ _); rotate_left; (focus (first | omega | (simp; done) | (simp; omega)))) | (with_reducible refine Below.drew ?_) | (with_reducible refine below_drewN ?_ _) | ((with_reducible refine Below.alloc ?_ ?_ _); rotate_left; (focus (first | omega | (simp; done) | (simp; omega))))))
  clear hW0
  refine (hV.out W0).mono ?_
  rintro e w1 ⟨rfl, hb1⟩
  have R1 := R0.keep hb1 R0.lt
  have S1 := S0.keep hb1 S0.lt
  have hB1 := binto hB0 hb1
  have hfl := R1.lt
  have hsl := S1.lt
  clear R0 S0 hB0 hb1 hV
  dsimp only
  go_wp2_with fail
  generalize hW2 : World.alloc w1 _ = W2
  have D2 : Blk W2 w1.heap.size #[.int .i64 9, .int .i64 (-3)] 29 := by rw [← hW2]; exact Blk.new _ _ _
  have R2 : Blk W2 (w.heap.size + 1 + 1) #[.int .i64 0, .int .i64 0] 29 := by rw [← hW2]; exact R1.alloc _
  have S2 : Blk W2 (w.heap.size + 1) #[.int .i64 0, .int .i64 0, .int .i64 0, .slice none 0 0, .slice none 0 0] 27 := by rw [← hW2]; exact S1.alloc _
  have hB2 : Below w.heap.size w W2 := by rw [← hW2]; exact hB1.trans (below_alloc' hB1.size _)
  obtain ⟨r0, r1, rf, rlt⟩ := R2.d2
  obtain ⟨d0, d1, df, dlt⟩ := D2.d2
  obtain ⟨s0, s1, s2, s3, s4, sf, slt⟩ := S2.d5
  have hne1 : ¬ w.heap.size + 1 + 1 = w1.heap.size := by omega
  have hne2 : ¬ w1.heap.size = w.heap.size + 1 + 1 := by omega
  have hne3 : ¬ w.heap.size + 1 = w1.heap.size := by omega
  have hne4 : ¬ w1.heap.size = w.heap.size + 1 := by omega
  clear hW2 R1 R2 S1 S2 D2 hB1
  go_region
  all_goals go_wp2_with fail
  all_goals exact bodyPost_ret (v := .tuple #[.agg #[.int .i64 0, .int .i64 0, .int .i64 0, .slice none 0 0, .slice none 0 0], .agg #[.int .i64 9, .int .i64 (-3)]]) (by simp [results, Tryz.results4, go_sem, r0, r1, rf, rlt, s0, s1, s2, s3, s4, sf, slt]) rfl ⟨rfl, (by repeat (first | (with_reducible exact Below.refl _ _) | (with_reducible assumption) | ((with_reducible refine Below.setCell ?_ ?_ _); rotate_left; (focus (first | omega | (simp; done) | (simp; omega)))) | (with_reducible refine Below.drew ?_) | (with_reducible refine below_drewN ?_ _) | ((with_reducible refine Below.alloc ?_ ?_ _); rotate_left; (focus (first | omega | (simp; done) | (simp; omega))))))⟩

end Go.Proofs.YtnfgedbcfclnmaaGreat

namespace Go.Proofs.YtnfgedbcfclnmaaGreat
open Go.RowKit

theorem below_alloc3 {w : World} {B : Nat} (h : B ≤ w.heap.size) (o : Obj) : Below B w (w.alloc o) := (Below.refl _ _).alloc h _

set_option maxRecDepth 100000 in
set_option maxHeartbeats 4000000 in
theorem foundFault_none (W H : Int) (a : Option Addr) (np cp : Nat) (w : World) (h : imageFaultF W H np = (0, 0)) (n : Nat) (hn : n = 0) :
    Calls Tryz.prog 9 #[.agg #[.int .i64 W, .int .i64 H, .slice a np cp], .int .i64 n] w fun e w' => e = .returned (.agg #[.int .i64 12, .int .i64 (-1)]) ∧ Below w.heap.size w w' := by
  have hV := imageFault_any W H a np cp
  rw [h] at hV
  have hV := Lib.hid hV
  subst hn
  clear h
  go_enter Tryz.func9, Tryz.ntmps9
  go_wp2_with fail
  generalize hW0 : World.alloc (World.alloc w _) _ = W0
  have R0 : Blk W0 (w.heap.size + 1) #[.int .i64 0, .int .i64 0] 29 := by rw [← hW0]; exact Blk.newAt _ _ (by simp)
  have hB0 : Below w.heap.size w W0 := by rw [← hW0]; exact (by repeat (first | (with_reducible exact Below.refl _ _) | (with_reducible assumption) | ((with_reducible refine Below.setCell ?_ ?_ _); rotate_left; (focus (first | omega | (simp; done) | (simp; omega)))) | (with_reducible refine Below.drew ?_) | (with_reducible refine below_drewN ?_ _) | ((with_reducible refine Below.alloc ?_ ?_ _); rotate_left; (focus (first | omega | (simp; done) | (simp; omega))))))
  clear hW0
  refine (hV.out W0).mono ?_
  rintro e w1 ⟨rfl, hb1⟩
  have R1 := R0.keep hb1 R0.lt
  have hB1 := binto hB0 hb1
  have hfl := R1.lt
  clear R0 hB0 hb1 hV
  dsimp only
  go_wp2_with fail
  generalize hW2 : World.alloc w1 _ = W2
  have R2 : Blk W2 (w.heap.size + 1) #[.int .i64 0, .int .i64 0] 29 := by rw [← hW2]; exact R1.alloc _
  have hB2 : Below w.heap.size w W2 := by rw [← hW2]; exact hB1.trans (below_alloc3 hB1.size _)
  clear hW2 R1 hB1
  obtain ⟨r0, r1, rf, rlt⟩ := R2.d2
  go_wp2_with (go_at_call 18; refine (at_exact _ _ _).mono ?_; rintro e w' ⟨rfl, rfl⟩)
  exact bodyPost_ret (v := .agg #[.int .i64 12, .int .i64 (-1)]) (by simp [results, Tryz.results9, go_sem, r0, r1, rf, rlt]) rfl ⟨rfl, (by repeat (first | (with_reducible exact Below.refl _ _) | (with_reducible assumption) | ((with_reducible refine Below.setCell ?_ ?_ _); rotate_left; (focus (first | omega | (simp; done) | (simp; omega)))) | (with_reducible refine Below.drew ?_) | (with_reducible refine below_drewN ?_ _) | ((with_reducible refine Below.alloc ?_ ?_ _); rotate_left; (focus (first | omega | (simp; done) | (simp; omega))))))⟩

set_option maxRecDepth 100000 in
set_option maxHeartbeats 4000000 in
theorem foundFault_many (W H : Int) (a : Option Addr) (np cp : Nat) (w : World) (h : imageFaultF W H np = (0, 0)) (n : Nat) (hn : 1 < n) :
    Calls Tryz.prog 9 #[.agg #[.int .i64 W, .int .i64 H, .slice a np cp], .int .i64 n] w fun e w' => e = .returned (.agg #[.int .i64 23, .int .i64 (-1)]) ∧ Below w.heap.size w w' := by
  have hV := imageFault_any W H a np cp
  rw [h] at hV
  have hV := Lib.hid hV
  have d1 : ((n : Int) == 0) = false := by simp; omega
  have d2 : decide (1 < (n : Int)) = true := by simp; omega
  clear h
  go_enter Tryz.func9, Tryz.ntmps9
  go_wp2_with fail
  generalize hW0 : World.alloc (World.alloc w _) _ = W0
  have R0 : Blk W0 (w.heap.size + 1) #[.int .i64 0, .int .i64 0] 29 := by rw [← hW0]; exact Blk.newAt _ _ (by simp)
  have hB0 : Below w.heap.size w W0 := by rw [← hW0]; exact (by repeat (first | (with_reducible exact Below.refl _ _) | (with_reducible assumption) | ((with_reducible refine Below.setCell ?_ ?_ _); rotate_left; (focus (first | omega | (simp; done) | (simp; omega)))) | (with_reducible refine Below.drew ?_) | (with_reducible refine below_drewN ?_ _) | ((with_reducible refine Below.alloc ?_ ?_ _); rotate_left; (focus (first | omega | (simp; done) | (simp; omega))))))
  clear hW0
  refine (hV.out W0).mono ?_
  rintro e w1 ⟨rfl, hb1⟩
  have R1 := R0.keep hb1 R0.lt
  have hB1 := binto hB0 hb1
  have hfl := R1.lt
  clear R0 hB0 hb1 hV
  dsimp only
  go_wp2_with fail
  generalize hW2 : World.alloc w1 _ = W2
  have R2 : Blk W2 (w.heap.size + 1) #[.int .i64 0, .int .i64 0] 29 := by rw [← hW2]; exact R1.alloc _
  have hB2 : Below w.heap.size w W2 := by rw [← hW2]; exact hB1.trans (below_alloc3 hB1.size _)
  clear hW2 R1 hB1
  obtain ⟨r0, r1, rf, rlt⟩ := R2.d2
  go_wp2_with (go_at_call 18; refine (at_exact _ _ _).mono ?_; rintro e w' ⟨rfl, rfl⟩)
  exact bodyPost_ret (v := .agg #[.int .i64 23, .int .i64 (-1)]) (by simp [results, Tryz.results9, go_sem, r0, r1, rf, rlt]) rfl ⟨rfl, (by repeat (first | (with_reducible exact Below.refl _ _) | (with_reducible assumption) | ((with_reducible refine Below.setCell ?_ ?_ _); rotate_left; (focus (first | omega | (simp; done) | (simp; omega)))) | (with_reducible refine Below.drew ?_) | (with_reducible refine below_drewN ?_ _) | ((with_reducible refine Below.alloc ?_ ?_ _); rotate_left; (focus (first | omega | (simp; done) | (simp; omega))))))⟩

set_option maxRecDepth 100000 in
set_option maxHeartbeats 4000000 in
theorem foundFault_one (W H : Int) (a : Option Addr) (np cp : Nat) (w : World) (h : imageFaultF W H np = (0, 0)) (n : Nat) (hn : n = 1) :
    Calls Tryz.prog 9 #[.agg #[.int .i64 W, .int .i64 H, .slice a np cp], .int .i64 n] w fun e w' => e = .returned (.agg #[.int .i64 0, .int .i64 (0)]) ∧ Below w.heap.size w w' := by
  have hV := imageFault_any W H a np cp
  rw [h] at hV
  have hV := Lib.hid hV
  subst hn
  clear h
  go_enter Tryz.func9, Tryz.ntmps9
  go_wp2_with fail
  generalize hW0 : World.alloc (World.alloc w _) _ = W0
  have R0 : Blk W0 (w.heap.size + 1) #[.int .i64 0, .int .i64 0] 29 := by rw [← hW0]; exact Blk.newAt _ _ (by simp)
  have hB0 : Below w.heap.size w W0 := by rw [← hW0]; exact (by repeat (first | (with_reducible exact Below.refl _ _) | (with_reducible assumption) | ((with_reducible refine Below.setCell ?_ ?_ _); rotate_left; (focus (first | omega | (simp; done) | (simp; omega)))) | (with_reducible refine Below.drew ?_) | (with_reducible refine below_drewN ?_ _) | ((with_reducible refine Below.alloc ?_ ?_ _); rotate_left; (focus (first | omega | (simp; done) | (simp; omega))))))
  clear hW0
  refine (hV.out W0).mono ?_
  rintro e w1 ⟨rfl, hb1⟩
  have R1 := R0.keep hb1 R0.lt
  have hB1 := binto hB0 hb1
  have hfl := R1.lt
  clear R0 hB0 hb1 hV
  dsimp only
  go_wp2_with fail
  generalize hW2 : World.alloc w1 _ = W2
  have R2 : Blk W2 (w.heap.size + 1) #[.int .i64 0, .int .i64 0] 29 := by rw [← hW2]; exact R1.alloc _
  have hB2 : Below w.heap.size w W2 := by rw [← hW2]; exact hB1.trans (below_alloc3 hB1.size _)
  clear hW2 R1 hB1
  obtain ⟨r0, r1, rf, rlt⟩ := R2.d2
  go_wp2_with (go_at_call 18; refine (at_exact _ _ _).mono ?_; rintro e w' ⟨rfl, rfl⟩)
  exact bodyPost_ret (v := .agg #[.int .i64 0, .int .i64 (0)]) (by simp [results, Tryz.results9, go_sem, r0, r1, rf, rlt]) rfl ⟨rfl, (by repeat (first | (with_reducible exact Below.refl _ _) | (with_reducible assumption) | ((with_reducible refine Below.setCell ?_ ?_ _); rotate_left; (focus (first | omega | (simp; done) | (simp; omega)))) | (with_reducible refine Below.drew ?_) | (with_reducible refine below_drewN ?_ _) | ((with_reducible refine Below.alloc ?_ ?_ _); rotate_left; (focus (first | omega | (simp; done) | (simp; omega))))))⟩

set_option maxRecDepth 100000 in
set_option maxHeartbeats 4000000 in
theorem sameFrame_any (t s R : Int) (tv lv tv' lv' : Value) (l o : List Int) (w : World) (h1 : Reads (Value.int .i64) w tv l) (h2 : Reads (Value.int .i64) w lv o) (h3 : Reads (Value.int .i64) w tv' l) (h4 : Reads (Value.int .i64) w lv' o) :
    Calls Tryz.prog 6 #[.agg #[.int .i64 t, .int .i64 s, .int .i64 R, tv, lv], .agg #[.int .i64 t, .int .i64 s, .int .i64 R, tv', lv']] w fun e w' => e = .returned (.bool true) ∧ Below w.heap.size w w' := by
  have HA := Lib.hid (fun wz (x : Reads (Value.int .i64) wz tv l) (y : Reads (Value.int .i64) wz tv' l) => ints_any tv tv' l l wz x y)
  have HB := Lib.hid (fun wz (x : Reads (Value.int .i64) wz lv o) (y : Reads (Value.int .i64) wz lv' o) => ints_any lv lv' o o wz x y)
  rw [show decide (l = l) = true by simp] at HA
  rw [show decide (o = o) = true by simp] at HB
  have H1 := Lib.hid h1
  have H2 := Lib.hid h2
  have H3 := Lib.hid h3
  have H4 := Lib.hid h4
  obtain ⟨a1, c1, rfl, -⟩ := id h1
  obtain ⟨a2, c2, rfl, -⟩ := id h2
  obtain ⟨a3, c3, rfl, -⟩ := id h3
  obtain ⟨a4, c4, rfl, -⟩ := id h4
  clear h1 h2 h3 h4
  go_enter Tryz.func6, Tryz.ntmps6
  go_wp2_with fail
  generalize hW0 : World.alloc (World.alloc w _) _ = W0
  have K0 : Blk W0 w.heap.size #[.int .i64 t, .int .i64 s, .int .i64 R, .slice a1 l.length c1, .slice a2 o.length c2] 27 := by rw [← hW0]; exact (Blk.new _ _ _).alloc _
  have G0 : Blk W0 (w.heap.size + 1) #[.int .i64 t, .int .i64 s, .int .i64 R, .slice a3 l.length c3, .slice a4 o.length c4] 27 := by rw [← hW0]; exact Blk.newAt _ _ (by simp)
  have hB0 : Below w.heap.size w W0 := by rw [← hW0]; exact (by repeat (first | (with_reducible exact Below.refl _ _) | (with_reducible assumption) | ((with_reducible refine Below.setCell ?_ ?_ _); rotate_left; (focus (first | omega | (simp; done) | (simp; omega)))) | (with_reducible refine Below.drew ?_) | (with_reducible refine below_drewN ?_ _) | ((with_reducible refine Below.alloc ?_ ?_ _); rotate_left; (focus (first | omega | (simp; done) | (simp; omega))))))
  clear hW0
  obtain ⟨k0, k1, k2, k3, k4, kf, klt⟩ := K0.d5
  obtain ⟨g0, g1, g2, g3, g4, gf, glt⟩ := G0.d5
  go_wp2_with fail
  refine (HA.out _ (H1.out.below hB0) (H3.out.below hB0)).mono ?_
  rintro e w1 ⟨rfl, hb1⟩
  have K1 := K0.keep hb1 K0.lt
  have G1 := G0.keep hb1 G0.lt
  have hB1 := binto hB0 hb1
  clear K0 G0 hb1 hB0 k0 k1 k2 k3 k4 kf klt g0 g1 g2 g3 g4 gf glt
  obtain ⟨k0, k1, k2, k3, k4, kf, klt⟩ := K1.d5
  obtain ⟨g0, g1, g2, g3, g4, gf, glt⟩ := G1.d5
  dsimp only
  go_wp2_with fail
  refine (HB.out _ (H2.out.below hB1) (H4.out.below hB1)).mono ?_
  rintro e w2 ⟨rfl, hb2⟩
  have hB2 := binto hB1 hb2
  clear K1 G1 hb2 hB1 k0 k1 k2 k3 k4 kf klt g0 g1 g2 g3 g4 gf glt
  dsimp only
  go_wp2_with fail
  go_ret
  exact ⟨rfl, hB2⟩

end Go.Proofs.YtnfgedbcfclnmaaGreat

namespace Go.Proofs.YtnfgedbcfclnmaaGreat
open Go.ChangeShapes Go.WideShapes Go.ChangeAt Go.RowKit Go.Joins

theorem Tryz.own : ownKnob Tryz.prog.godebug = none := by kernel_rfl
theorem Tryz.laidOut : laidOutB Tryz.prog = true := by kernel_rfl

section
variable {H : Type} {enc : TypeId × Value → H}
set_option maxRecDepth 100000 in
/-- An image that came in, opened. -/
theorem open_image {W : World} {v : Value} {d : DataW H} {p : List MemPlace} {base : Nat} (hval : Value.okWide Tryz.prog W .any base 24 v) (h : DataW.Trod enc Tryz.prog W 0 (fun _ => true) true 24 v d p) :
    ∃ (x y : Int) (a : Option Addr) (np cp : Nat) (px : List Int), v = .agg #[.int .i64 x, .int .i64 y, .slice a np cp] ∧ Reads (Value.int .u8) W (.slice a np cp) px ∧ ∀ n ∈ px, 0 ≤ n ∧ n ≤ 255 := by
  obtain ⟨c0, c1, c2, y0, y1, y2, m, rfl, -, -, hy0, hy1, hy2⟩ := open_agg3 Tryz.underlying24 (by kernel_rfl) (by kernel_rfl : Tryz.prog.cellsOf 24 = 3) hval h
  obtain ⟨x, e0, -, -⟩ := DataW.trod_int Tryz.underlying3 hy0
  obtain ⟨y, e1, -, -⟩ := DataW.trod_int Tryz.underlying3 hy1
  simp at e0 e1
  subst e0 e1
  rcases open_ints Tryz.underlying22 Tryz.underlying5 (by kernel_rfl) hy2 with ⟨hcs, _⟩ | ⟨ad, l, c, zs, hcs, _, hl, hm, hz, _, hcell, hwz⟩
  · simp at hcs
    subst hcs
    exact ⟨x, y, none, 0, 0, [], rfl, ⟨none, 0, rfl, by simp, by simp, .inl rfl⟩, by simp⟩
  · simp at hcs
    subst hcs
    have hz' : zs.length = c := by simpa using hz
    refine ⟨x, y, some ad, l, c, zs.take l, rfl, ?_, fun n hn => ?_⟩
    · rcases Nat.eq_zero_or_pos l with h0 | h0
      · subst h0
        exact ⟨_, _, rfl, by simp, hm, .inl (by simp)⟩
      · obtain ⟨b, off, spot⟩ := ad
        have hc0 := hcell 0 (by omega)
        have hspot : spot = none := by simpa [Addr.add] using World.cell?_spot hc0
        subst hspot
        have htl : (zs.take l).length = l := by simp; omega
        refine ⟨some ⟨b, off, none⟩, c, by rw [htl], by rw [htl]; exact hl, hm, .inr ⟨b, off, rfl, World.block_lt_of_cell? _ _ hc0, fun i x' hx' => ?_⟩⟩
        have hil : i < l := by have := (List.getElem?_eq_some_iff.1 hx').1; omega
        have hci := hcell i (by omega)
        rw [List.getElem?_take_of_lt hil] at hx'
        rw [List.getD, hx'] at hci
        rw [Addr.add_lit] at hci
        exact hci
    · have hw := hwz n (List.mem_of_mem_take hn)
      have hw' : (decide (0 ≤ n) && decide (n ≤ 255)) = true := hw
      simpa using hw'
end

section
variable {H : Type} {enc : TypeId × Value → H}
set_option maxRecDepth 100000 in
/-- A list of numbers that came in, opened, by the reading of its cell. -/
theorem open_list {W : World} {c2 : Value} {y2 : DataW H × List MemPlace} {m : Nat} (hy2 : DataW.trod enc Tryz.prog W 0 (fun _ => true) true m 25 [c2] = some y2) :
    ∃ l : List Int, Reads (Value.int .i64) W c2 l ∧ ∀ n ∈ l, -9223372036854775808 ≤ n ∧ n ≤ 9223372036854775807 := by
  rcases open_ints Tryz.underlying25 Tryz.underlying3 (by kernel_rfl) hy2 with ⟨hcs, _⟩ | ⟨ad, l, c, zs, hcs, _, hl, hm, hz, _, hcell, hwz⟩
  · simp at hcs
    subst hcs
    exact ⟨[], ⟨none, 0, rfl, by simp, by simp, .inl rfl⟩, by simp⟩
  · simp at hcs
    subst hcs
    have hz' : zs.length = c := by simpa using hz
    refine ⟨zs.take l, ?_, fun n hn => ?_⟩
    · rcases Nat.eq_zero_or_pos l with h0 | h0
      · subst h0
        exact ⟨_, _, rfl, by simp, hm, .inl (by simp)⟩
      · obtain ⟨b, off, spot⟩ := ad
        have hc0 := hcell 0 (by omega)
        have hspot : spot = none := by simpa [Addr.add] using World.cell?_spot hc0
        subst hspot
        have htl : (zs.take l).length = l := by simp; omega
        refine ⟨some ⟨b, off, none⟩, c, by rw [htl], by rw [htl]; exact hl, hm, .inr ⟨b, off, rfl, World.block_lt_of_cell? _ _ hc0, fun i x' hx' => ?_⟩⟩
        have hil : i < l := by have := (List.getElem?_eq_some_iff.1 hx').1; omega
        have hci := hcell i (by omega)
        rw [List.getElem?_take_of_lt hil] at hx'
        rw [List.getD, hx'] at hci
        rw [Addr.add_lit] at hci
        exact hci
    · have hw := hwz n (List.mem_of_mem_take hn)
      have hw' : (decide (-9223372036854775808 ≤ n) && decide (n ≤ 9223372036854775807)) = true := hw
      simpa using hw'
end

end Go.Proofs.YtnfgedbcfclnmaaGreat

namespace Go.Proofs.YtnfgedbcfclnmaaGreat
open Go.RowKit

structure L4Env (w : World) (iv : Array Value) (wx : World) : Prop where
  below : Below w.heap.size w wx
  img : Blk wx w.heap.size iv 24
theorem L4Env.keep {w wx w1 : World} {iv : Array Value} (h : L4Env w iv wx) (hb : Below wx.heap.size wx w1) : L4Env w iv w1 :=
  ⟨binto h.below hb, h.img.keep hb h.img.lt⟩
theorem reads_nil (w : World) : Reads (Value.int .i64) w (.slice none 0 0) [] := ⟨none, 0, rfl, by simp, by simp, .inl rfl⟩

set_option maxRecDepth 100000 in
set_option maxHeartbeats 4000000 in
theorem law4_bad1 (W H : Int) (a : Option Addr) (np cp : Nat) (w : World) (h : imageFaultF W H np = (4, -1)) :
    Calls Tryz.prog 3 #[.agg #[.int .i64 W, .int .i64 H, .slice a np cp]] w fun e w' => e = .returned (.bool true) ∧ Below w.heap.size w w' := by
  have hF := imageFault_any W H a np cp
  rw [h] at hF
  have HF := Lib.hid hF
  have HL := Lib.hid (fun wz => find_bad1 W H a np cp wz h)
  clear hF h
  go_enter Tryz.func3, Tryz.ntmps3
  go_wp2_with fail
  refine (HL.out _).mono ?_
  rintro e w1 ⟨rfl, hb1⟩
  have E1 : L4Env w #[.int .i64 W, .int .i64 H, .slice a np cp] w1 := ⟨binto (below_alloc w _) hb1, (Blk.new _ _ _).keep hb1 (by simp)⟩
  obtain ⟨k0, k1, k2, kf, klt⟩ := E1.img.d3
  have klt1 : w.heap.size < w1.heap.size + 1 := by omega
  have klt2 : w.heap.size < w1.heap.size + 1 + 1 := by omega
  clear hb1 HL
  dsimp only
  go_wp2_with fail
  generalize hW2 : World.alloc (World.alloc w1 _) _ = W2
  have E2 : L4Env w #[.int .i64 W, .int .i64 H, .slice a np cp] W2 := by rw [← hW2]; exact E1.keep (by repeat (first | (with_reducible exact Below.refl _ _) | (with_reducible assumption) | ((with_reducible refine Below.setCell ?_ ?_ _); rotate_left; (focus (first | omega | (simp; done) | (simp; omega)))) | (with_reducible refine Below.drew ?_) | (with_reducible refine below_drewN ?_ _) | ((with_reducible refine Below.alloc ?_ ?_ _); rotate_left; (focus (first | omega | (simp; done) | (simp; omega))))))
  have G2 : Blk W2 w1.heap.size #[.int .i64 0, .int .i64 0, .int .i64 0, .slice none 0 0, .slice none 0 0] 27 := by rw [← hW2]; exact (Blk.new _ _ _).alloc _
  have D2 : Blk W2 (w1.heap.size + 1) #[.int .i64 4, .int .i64 (-1)] 29 := by rw [← hW2]; exact Blk.newAt _ _ (by simp)
  clear hW2 E1 k0 k1 k2 kf klt klt1 klt2
  refine (HF.out W2).mono ?_
  rintro e w3 ⟨rfl, hb3⟩
  have E3 := E2.keep hb3
  have D3 := D2.keep hb3 D2.lt
  have G3 := G2.keep hb3 G2.lt
  obtain ⟨d0, d1, df, dlt⟩ := D3.d2
  obtain ⟨g0, g1, g2, g3, g4, gf, glt⟩ := G3.d5
  have dlt1 : w1.heap.size + 1 < w3.heap.size + 1 := by omega
  have glt1 : w1.heap.size < w3.heap.size + 1 := by omega
  clear E2 D2 G2 hb3 HF
  dsimp only
  go_wp2_with fail
  refine (sameFrame_any 0 0 0 _ _ _ _ [] [] _ (reads_nil _) (reads_nil _) (reads_nil _) (reads_nil _)).mono ?_
  rintro e w4 ⟨rfl, hb4⟩
  have hB4 := binto E3.below (binto (below_alloc w3 _) hb4)
  clear E3 hb4 d0 d1 df dlt g0 g1 g2 g3 g4 gf glt dlt1 glt1 D3 G3
  dsimp only
  go_wp2_with fail
  refine (searched_any _).mono ?_
  rintro e w5 ⟨rfl, hb5⟩
  have hB := binto hB4 hb5
  dsimp only
  go_wp2_with fail
  go_ret
  exact ⟨rfl, hB⟩

set_option maxRecDepth 100000 in
set_option maxHeartbeats 4000000 in
theorem law4_bad2 (W H : Int) (a : Option Addr) (np cp : Nat) (w : World) (h : imageFaultF W H np = (4, -2)) :
    Calls Tryz.prog 3 #[.agg #[.int .i64 W, .int .i64 H, .slice a np cp]] w fun e w' => e = .returned (.bool true) ∧ Below w.heap.size w w' := by
  have hF := imageFault_any W H a np cp
  rw [h] at hF
  have HF := Lib.hid hF
  have HL := Lib.hid (fun wz => find_bad2 W H a np cp wz h)
  clear hF h
  go_enter Tryz.func3, Tryz.ntmps3
  go_wp2_with fail
  refine (HL.out _).mono ?_
  rintro e w1 ⟨rfl, hb1⟩
  have E1 : L4Env w #[.int .i64 W, .int .i64 H, .slice a np cp] w1 := ⟨binto (below_alloc w _) hb1, (Blk.new _ _ _).keep hb1 (by simp)⟩
  obtain ⟨k0, k1, k2, kf, klt⟩ := E1.img.d3
  have klt1 : w.heap.size < w1.heap.size + 1 := by omega
  have klt2 : w.heap.size < w1.heap.size + 1 + 1 := by omega
  clear hb1 HL
  dsimp only
  go_wp2_with fail
  generalize hW2 : World.alloc (World.alloc w1 _) _ = W2
  have E2 : L4Env w #[.int .i64 W, .int .i64 H, .slice a np cp] W2 := by rw [← hW2]; exact E1.keep (by repeat (first | (with_reducible exact Below.refl _ _) | (with_reducible assumption) | ((with_reducible refine Below.setCell ?_ ?_ _); rotate_left; (focus (first | omega | (simp; done) | (simp; omega)))) | (with_reducible refine Below.drew ?_) | (with_reducible refine below_drewN ?_ _) | ((with_reducible refine Below.alloc ?_ ?_ _); rotate_left; (focus (first | omega | (simp; done) | (simp; omega))))))
  have G2 : Blk W2 w1.heap.size #[.int .i64 0, .int .i64 0, .int .i64 0, .slice none 0 0, .slice none 0 0] 27 := by rw [← hW2]; exact (Blk.new _ _ _).alloc _
  have D2 : Blk W2 (w1.heap.size + 1) #[.int .i64 4, .int .i64 (-2)] 29 := by rw [← hW2]; exact Blk.newAt _ _ (by simp)
  clear hW2 E1 k0 k1 k2 kf klt klt1 klt2
  refine (HF.out W2).mono ?_
  rintro e w3 ⟨rfl, hb3⟩
  have E3 := E2.keep hb3
  have D3 := D2.keep hb3 D2.lt
  have G3 := G2.keep hb3 G2.lt
  obtain ⟨d0, d1, df, dlt⟩ := D3.d2
  obtain ⟨g0, g1, g2, g3, g4, gf, glt⟩ := G3.d5
  have dlt1 : w1.heap.size + 1 < w3.heap.size + 1 := by omega
  have glt1 : w1.heap.size < w3.heap.size + 1 := by omega
  clear E2 D2 G2 hb3 HF
  dsimp only
  go_wp2_with fail
  refine (sameFrame_any 0 0 0 _ _ _ _ [] [] _ (reads_nil _) (reads_nil _) (reads_nil _) (reads_nil _)).mono ?_
  rintro e w4 ⟨rfl, hb4⟩
  have hB4 := binto E3.below (binto (below_alloc w3 _) hb4)
  clear E3 hb4 d0 d1 df dlt g0 g1 g2 g3 g4 gf glt dlt1 glt1 D3 G3
  dsimp only
  go_wp2_with fail
  refine (searched_any _).mono ?_
  rintro e w5 ⟨rfl, hb5⟩
  have hB := binto hB4 hb5
  dsimp only
  go_wp2_with fail
  go_ret
  exact ⟨rfl, hB⟩

set_option maxRecDepth 100000 in
set_option maxHeartbeats 4000000 in
theorem law4_bad3 (W H : Int) (a : Option Addr) (np cp : Nat) (w : World) (h : imageFaultF W H np = (9, -3)) :
    Calls Tryz.prog 3 #[.agg #[.int .i64 W, .int .i64 H, .slice a np cp]] w fun e w' => e = .returned (.bool true) ∧ Below w.heap.size w w' := by
  have hF := imageFault_any W H a np cp
  rw [h] at hF
  have HF := Lib.hid hF
  have HL := Lib.hid (fun wz => find_bad3 W H a np cp wz h)
  clear hF h
  go_enter Tryz.func3, Tryz.ntmps3
  go_wp2_with fail
  refine (HL.out _).mono ?_
  rintro e w1 ⟨rfl, hb1⟩
  have E1 : L4Env w #[.int .i64 W, .int .i64 H, .slice a np cp] w1 := ⟨binto (below_alloc w _) hb1, (Blk.new _ _ _).keep hb1 (by simp)⟩
  obtain ⟨k0, k1, k2, kf, klt⟩ := E1.img.d3
  have klt1 : w.heap.size < w1.heap.size + 1 := by omega
  have klt2 : w.heap.size < w1.heap.size + 1 + 1 := by omega
  clear hb1 HL
  dsimp only
  go_wp2_with fail
  generalize hW2 : World.alloc (World.alloc w1 _) _ = W2
  have E2 : L4Env w #[.int .i64 W, .int .i64 H, .slice a np cp] W2 := by rw [← hW2]; exact E1.keep (by repeat (first | (with_reducible exact Below.refl _ _) | (with_reducible assumption) | ((with_reducible refine Below.setCell ?_ ?_ _); rotate_left; (focus (first | omega | (simp; done) | (simp; omega)))) | (with_reducible refine Below.drew ?_) | (with_reducible refine below_drewN ?_ _) | ((with_reducible refine Below.alloc ?_ ?_ _); rotate_left; (focus (first | omega | (simp; done) | (simp; omega))))))
  have G2 : Blk W2 w1.heap.size #[.int .i64 0, .int .i64 0, .int .i64 0, .slice none 0 0, .slice none 0 0] 27 := by rw [← hW2]; exact (Blk.new _ _ _).alloc _
  have D2 : Blk W2 (w1.heap.size + 1) #[.int .i64 9, .int .i64 (-3)] 29 := by rw [← hW2]; exact Blk.newAt _ _ (by simp)
  clear hW2 E1 k0 k1 k2 kf klt klt1 klt2
  refine (HF.out W2).mono ?_
  rintro e w3 ⟨rfl, hb3⟩
  have E3 := E2.keep hb3
  have D3 := D2.keep hb3 D2.lt
  have G3 := G2.keep hb3 G2.lt
  obtain ⟨d0, d1, df, dlt⟩ := D3.d2
  obtain ⟨g0, g1, g2, g3, g4, gf, glt⟩ := G3.d5
  have dlt1 : w1.heap.size + 1 < w3.heap.size + 1 := by omega
  have glt1 : w1.heap.size < w3.heap.size + 1 := by omega
  clear E2 D2 G2 hb3 HF
  dsimp only
  go_wp2_with fail
  refine (sameFrame_any 0 0 0 _ _ _ _ [] [] _ (reads_nil _) (reads_nil _) (reads_nil _) (reads_nil _)).mono ?_
  rintro e w4 ⟨rfl, hb4⟩
  have hB4 := binto E3.below (binto (below_alloc w3 _) hb4)
  clear E3 hb4 d0 d1 df dlt g0 g1 g2 g3 g4 gf glt dlt1 glt1 D3 G3
  dsimp only
  go_wp2_with fail
  refine (searched_any _).mono ?_
  rintro e w5 ⟨rfl, hb5⟩
  have hB := binto hB4 hb5
  dsimp only
  go_wp2_with fail
  go_ret
  exact ⟨rfl, hB⟩

set_option maxRecDepth 100000 in
set_option maxHeartbeats 8000000 in
theorem law4_ok (W H : Nat) (a : Option Addr) (np cp : Nat) (px : List Int) (w : World) (h : ImgOk w W H (.slice a np cp) px) (hf : imageFaultF W H np = (0, 0)) :
    Calls Tryz.prog 3 #[.agg #[.int .i64 W, .int .i64 H, .slice a np cp]] w fun e w' => e = .returned (.bool true) ∧ Below w.heap.size w w' := by
  have hF := imageFault_any W H a np cp
  rw [hf] at hF
  have HF := Lib.hid hF
  have HFd := Lib.hid (fun wz hI => find_any W H a np cp px wz hI)
  have HO := Lib.hid (fun wz hI => found_any W H a np cp px wz hI)
  have HN0 := Lib.hid (fun n wz hn => foundFault_none W H a np cp wz hf n hn)
  have HN1 := Lib.hid (fun n wz hn => foundFault_one W H a np cp wz hf n hn)
  have HN2 := Lib.hid (fun n wz hn => foundFault_many W H a np cp wz hf n hn)
  have HI := Lib.hid h
  clear hF hf h
  go_enter Tryz.func3, Tryz.ntmps3
  go_wp2_with fail
  refine (HFd.out _ (HI.out.below (below_alloc _ _))).mono ?_
  rintro e w1 ⟨xs, hxs, hb1, hres⟩
  have HX := Lib.hid hxs
  clear HFd hxs
  rcases hacc : accL xs 8 with _ | ⟨⟨t, l, s, R, o⟩, _ | ⟨y, rest⟩⟩
  · rw [hacc] at hres
    replace hres := hres
    dsimp only at hres
    subst hres
    have HAC := Lib.hid hacc
    clear hacc
    have E1 : L4Env w #[.int .i64 W, .int .i64 H, .slice a np cp] w1 := ⟨binto (below_alloc w _) hb1, (Blk.new _ _ _).keep hb1 (by simp)⟩
    obtain ⟨k0, k1, k2, kf, klt⟩ := E1.img.d3
    have klt1 : w.heap.size < w1.heap.size + 1 := by omega
    have klt2 : w.heap.size < w1.heap.size + 1 + 1 := by omega
    clear hb1
    dsimp only
    go_wp2_with fail
    generalize hW2 : World.alloc (World.alloc w1 _) _ = W2
    have hb2 : Below w1.heap.size w1 W2 := by rw [← hW2]; exact (by repeat (first | (with_reducible exact Below.refl _ _) | (with_reducible assumption) | ((with_reducible refine Below.setCell ?_ ?_ _); rotate_left; (focus (first | omega | (simp; done) | (simp; omega)))) | (with_reducible refine Below.drew ?_) | (with_reducible refine below_drewN ?_ _) | ((with_reducible refine Below.alloc ?_ ?_ _); rotate_left; (focus (first | omega | (simp; done) | (simp; omega))))))
    have E2 := E1.keep hb2
    have G2 : Blk W2 w1.heap.size #[.int .i64 0, .int .i64 0, .int .i64 0, .slice none 0 0, .slice none 0 0] 27 := by rw [← hW2]; exact (Blk.new _ _ _).alloc _
    have D2 : Blk W2 (w1.heap.size + 1) #[.int .i64 12, .int .i64 (-1)] 29 := by rw [← hW2]; exact Blk.newAt _ _ (by simp)
    obtain ⟨bG, hbG⟩ : ∃ b, b = w1.heap.size := ⟨_, rfl⟩
    rw [← hbG] at G2 D2 ⊢
    clear hbG
    clear hW2 E1 k0 k1 k2 kf klt klt1 klt2
    refine (HF.out W2).mono ?_
    rintro e w3 ⟨rfl, hb3⟩
    have E3 := E2.keep hb3
    have D3 := D2.keep hb3 D2.lt
    have G3 := G2.keep hb3 G2.lt
    obtain ⟨d0, d1, df, dlt⟩ := D3.d2
    obtain ⟨k0, k1, k2, kf, klt⟩ := E3.img.d3
    have klt1 : w.heap.size < w3.heap.size + 1 := by omega
    clear E2 D2 G2 HF
    dsimp only
    go_wp2_with fail
    generalize hW4 : World.alloc w3 _ = W4
    have hb4 : Below w3.heap.size w3 W4 := by rw [← hW4]; exact (by repeat (first | (with_reducible exact Below.refl _ _) | (with_reducible assumption) | ((with_reducible refine Below.setCell ?_ ?_ _); rotate_left; (focus (first | omega | (simp; done) | (simp; omega)))) | (with_reducible refine Below.drew ?_) | (with_reducible refine below_drewN ?_ _) | ((with_reducible refine Below.alloc ?_ ?_ _); rotate_left; (focus (first | omega | (simp; done) | (simp; omega))))))
    have E4 := E3.keep hb4
    have D4 := D3.keep hb4 D3.lt
    have G4 := G3.keep hb4 G3.lt
    clear hW4 E3 D3 G3 d0 d1 df dlt k0 k1 k2 kf klt klt1
    refine (HO.out W4 (HI.out.below E4.below)).mono ?_
    rintro e w5 ⟨xs', hxs', q, tv', lv', hla, rfl, hrt, hrl, hb5⟩
    obtain ⟨a3, c3, rfl, -⟩ := id hrt
    obtain ⟨a4, c4, rfl, -⟩ := id hrl
    have hac : accL xs' 8 = accL xs 8 := accL_congr fun t ht => (hxs' t ht).unique (HX.out t ht)
    rw [hac] at hla ⊢
    have HRT := Lib.hid hrt
    have HRL := Lib.hid hrl
    have HLA := Lib.hid hla
    have E5 := E4.keep hb5
    have D5 := D4.keep hb5 D4.lt
    have G5 := G4.keep hb5 G4.lt
    obtain ⟨k0, k1, k2, kf, klt⟩ := E5.img.d3
    have klt1 : w.heap.size < w5.heap.size + 1 := by omega
    have hbX := binto hb2 (binto hb3 (binto hb4 hb5))
    clear E4 D4 G4 hb2 hb3 hb4 hb5 HO hac hxs' hla hrt hrl HX
    generalize hnn : (accL xs 8).length = nn
    have hnn' := hnn
    have HNN := Lib.hid hnn
    clear hnn hnn'
    go_wp2_with fail
    generalize hW6 : World.alloc w5 _ = W6
    have hb6 : Below w5.heap.size w5 W6 := by rw [← hW6]; exact (by repeat (first | (with_reducible exact Below.refl _ _) | (with_reducible assumption) | ((with_reducible refine Below.setCell ?_ ?_ _); rotate_left; (focus (first | omega | (simp; done) | (simp; omega)))) | (with_reducible refine Below.drew ?_) | (with_reducible refine below_drewN ?_ _) | ((with_reducible refine Below.alloc ?_ ?_ _); rotate_left; (focus (first | omega | (simp; done) | (simp; omega))))))
    have E6 := E5.keep hb6
    have D6 := D5.keep hb6 D5.lt
    have G6 := G5.keep hb6 G5.lt
    have X6 : Blk W6 w5.heap.size #[.int .i64 (q.1 : Nat), .int .i64 q.2.2.1, .int .i64 q.2.2.2.1, .slice a3 q.2.1.length c3, .slice a4 q.2.2.2.2.length c4] 27 := by rw [← hW6]; exact Blk.new _ _ _
    obtain ⟨bX, hbXe⟩ : ∃ b, b = w5.heap.size := ⟨_, rfl⟩
    rw [← hbXe] at X6 ⊢
    clear hbXe
    clear hW6 E5 D5 G5 k0 k1 k2 kf klt klt1
    refine (HN0.out nn W6 (by rw [← HNN.out]; exact (by rw [HAC.out]; rfl))).mono ?_
    rintro e w7 ⟨rfl, hb7⟩
    have E7 := E6.keep hb7
    have D7 := D6.keep hb7 D6.lt
    have G7 := G6.keep hb7 G6.lt
    have X7 := X6.keep hb7 X6.lt
    obtain ⟨d0, d1, df, dlt⟩ := D7.d2
    obtain ⟨g0, g1, g2, g3, g4, gf, glt⟩ := G7.d5
    obtain ⟨x0, x1, x2, x3, x4, xf, xlt⟩ := X7.d5
    have dlt1 : bG + 1 < w7.heap.size + 1 := by omega
    have glt1 : bG < w7.heap.size + 1 := by omega
    have xlt1 : bX < w7.heap.size + 1 := by omega
    have hbY := binto hbX (binto hb6 hb7)
    have hb67 := binto hb6 hb7
    clear E6 D6 G6 X6 hb6 hb7 HN0 hbX
    dsimp only
    go_wp2_with fail
    refine (sameFrame_any 0 0 0 _ _ _ _ [] [] _ (reads_nil _) (reads_nil _) (reads_nil _) (reads_nil _)).mono ?_
    rintro e w8 ⟨rfl, hb8⟩
    have hB8 := binto E7.below (binto (below_alloc w7 _) hb8)
    clear E7 hb8 d0 d1 df dlt g0 g1 g2 g3 g4 gf glt dlt1 glt1 D7 G7 X7 x0 x1 x2 x3 x4 xf xlt xlt1
    dsimp only
    go_wp2_with fail
    refine (searched_any _).mono ?_
    rintro e w9 ⟨rfl, hb9⟩
    have hB := binto hB8 hb9
    dsimp only
    go_wp2_with fail
    go_ret
    exact ⟨rfl, hB⟩
  · rw [hacc] at hres
    obtain ⟨tv, lv, rfl, hot, hol⟩ := hres
    have ht := own_reads hot
    have hl := own_reads hol
    obtain ⟨a1, c1, rfl, -⟩ := id ht
    obtain ⟨a2, c2, rfl, -⟩ := id hl
    have HT := Lib.hid ht
    have HL := Lib.hid hl
    have HAC := Lib.hid hacc
    clear hot hol ht hl hacc
    have E1 : L4Env w #[.int .i64 W, .int .i64 H, .slice a np cp] w1 := ⟨binto (below_alloc w _) hb1, (Blk.new _ _ _).keep hb1 (by simp)⟩
    obtain ⟨k0, k1, k2, kf, klt⟩ := E1.img.d3
    have klt1 : w.heap.size < w1.heap.size + 1 := by omega
    have klt2 : w.heap.size < w1.heap.size + 1 + 1 := by omega
    clear hb1
    dsimp only
    go_wp2_with fail
    generalize hW2 : World.alloc (World.alloc w1 _) _ = W2
    have hb2 : Below w1.heap.size w1 W2 := by rw [← hW2]; exact (by repeat (first | (with_reducible exact Below.refl _ _) | (with_reducible assumption) | ((with_reducible refine Below.setCell ?_ ?_ _); rotate_left; (focus (first | omega | (simp; done) | (simp; omega)))) | (with_reducible refine Below.drew ?_) | (with_reducible refine below_drewN ?_ _) | ((with_reducible refine Below.alloc ?_ ?_ _); rotate_left; (focus (first | omega | (simp; done) | (simp; omega))))))
    have E2 := E1.keep hb2
    have G2 : Blk W2 w1.heap.size #[.int .i64 t, .int .i64 s, .int .i64 R, .slice a1 l.length c1, .slice a2 o.length c2] 27 := by rw [← hW2]; exact (Blk.new _ _ _).alloc _
    have D2 : Blk W2 (w1.heap.size + 1) #[.int .i64 0, .int .i64 (0)] 29 := by rw [← hW2]; exact Blk.newAt _ _ (by simp)
    obtain ⟨bG, hbG⟩ : ∃ b, b = w1.heap.size := ⟨_, rfl⟩
    rw [← hbG] at G2 D2 ⊢
    clear hbG
    clear hW2 E1 k0 k1 k2 kf klt klt1 klt2
    refine (HF.out W2).mono ?_
    rintro e w3 ⟨rfl, hb3⟩
    have E3 := E2.keep hb3
    have D3 := D2.keep hb3 D2.lt
    have G3 := G2.keep hb3 G2.lt
    obtain ⟨d0, d1, df, dlt⟩ := D3.d2
    obtain ⟨k0, k1, k2, kf, klt⟩ := E3.img.d3
    have klt1 : w.heap.size < w3.heap.size + 1 := by omega
    clear E2 D2 G2 HF
    dsimp only
    go_wp2_with fail
    generalize hW4 : World.alloc w3 _ = W4
    have hb4 : Below w3.heap.size w3 W4 := by rw [← hW4]; exact (by repeat (first | (with_reducible exact Below.refl _ _) | (with_reducible assumption) | ((with_reducible refine Below.setCell ?_ ?_ _); rotate_left; (focus (first | omega | (simp; done) | (simp; omega)))) | (with_reducible refine Below.drew ?_) | (with_reducible refine below_drewN ?_ _) | ((with_reducible refine Below.alloc ?_ ?_ _); rotate_left; (focus (first | omega | (simp; done) | (simp; omega))))))
    have E4 := E3.keep hb4
    have D4 := D3.keep hb4 D3.lt
    have G4 := G3.keep hb4 G3.lt
    clear hW4 E3 D3 G3 d0 d1 df dlt k0 k1 k2 kf klt klt1
    refine (HO.out W4 (HI.out.below E4.below)).mono ?_
    rintro e w5 ⟨xs', hxs', q, tv', lv', hla, rfl, hrt, hrl, hb5⟩
    obtain ⟨a3, c3, rfl, -⟩ := id hrt
    obtain ⟨a4, c4, rfl, -⟩ := id hrl
    have hac : accL xs' 8 = accL xs 8 := accL_congr fun t ht => (hxs' t ht).unique (HX.out t ht)
    rw [hac] at hla ⊢
    have HRT := Lib.hid hrt
    have HRL := Lib.hid hrl
    have HLA := Lib.hid hla
    have E5 := E4.keep hb5
    have D5 := D4.keep hb5 D4.lt
    have G5 := G4.keep hb5 G4.lt
    obtain ⟨k0, k1, k2, kf, klt⟩ := E5.img.d3
    have klt1 : w.heap.size < w5.heap.size + 1 := by omega
    have hbX := binto hb2 (binto hb3 (binto hb4 hb5))
    clear E4 D4 G4 hb2 hb3 hb4 hb5 HO hac hxs' hla hrt hrl HX
    generalize hnn : (accL xs 8).length = nn
    have hnn' := hnn
    have HNN := Lib.hid hnn
    clear hnn hnn'
    go_wp2_with fail
    generalize hW6 : World.alloc w5 _ = W6
    have hb6 : Below w5.heap.size w5 W6 := by rw [← hW6]; exact (by repeat (first | (with_reducible exact Below.refl _ _) | (with_reducible assumption) | ((with_reducible refine Below.setCell ?_ ?_ _); rotate_left; (focus (first | omega | (simp; done) | (simp; omega)))) | (with_reducible refine Below.drew ?_) | (with_reducible refine below_drewN ?_ _) | ((with_reducible refine Below.alloc ?_ ?_ _); rotate_left; (focus (first | omega | (simp; done) | (simp; omega))))))
    have E6 := E5.keep hb6
    have D6 := D5.keep hb6 D5.lt
    have G6 := G5.keep hb6 G5.lt
    have X6 : Blk W6 w5.heap.size #[.int .i64 (q.1 : Nat), .int .i64 q.2.2.1, .int .i64 q.2.2.2.1, .slice a3 q.2.1.length c3, .slice a4 q.2.2.2.2.length c4] 27 := by rw [← hW6]; exact Blk.new _ _ _
    obtain ⟨bX, hbXe⟩ : ∃ b, b = w5.heap.size := ⟨_, rfl⟩
    rw [← hbXe] at X6 ⊢
    clear hbXe
    clear hW6 E5 D5 G5 k0 k1 k2 kf klt klt1
    refine (HN1.out nn W6 (by rw [← HNN.out]; exact (by rw [HAC.out]; rfl))).mono ?_
    rintro e w7 ⟨rfl, hb7⟩
    have E7 := E6.keep hb7
    have D7 := D6.keep hb7 D6.lt
    have G7 := G6.keep hb7 G6.lt
    have X7 := X6.keep hb7 X6.lt
    obtain ⟨d0, d1, df, dlt⟩ := D7.d2
    obtain ⟨g0, g1, g2, g3, g4, gf, glt⟩ := G7.d5
    obtain ⟨x0, x1, x2, x3, x4, xf, xlt⟩ := X7.d5
    have dlt1 : bG + 1 < w7.heap.size + 1 := by omega
    have glt1 : bG < w7.heap.size + 1 := by omega
    have xlt1 : bX < w7.heap.size + 1 := by omega
    have hbY := binto hbX (binto hb6 hb7)
    have hb67 := binto hb6 hb7
    clear E6 D6 G6 X6 hb6 hb7 HN1 hbX
    dsimp only
    go_wp2_with fail
    have hq : q = (t, l, s, R, o) := by
      rcases HLA.out with ⟨h1, h2⟩ | ⟨rest, h1⟩
      · rw [HAC.out] at h1; cases h1
      · rw [HAC.out] at h1
        have h2 : rest = [] := by
          cases rest with
          | nil => rfl
          | cons y ys => simp at h1
        subst h2
        simp at h1
        exact h1.symm
    have HRT7 := HRT.out.below hb67
    have HRL7 := HRL.out.below hb67
    rw [hq] at HRT7 HRL7
    have HT7 := HT.out.below hbY
    have HL7 := HL.out.below hbY
    subst hq
    dsimp only
    refine (sameFrame_any t s R _ _ _ _ l o _ (HT7.below (below_alloc _ _)) (HL7.below (below_alloc _ _)) (HRT7.below (below_alloc _ _)) (HRL7.below (below_alloc _ _))).mono ?_
    rintro e w8 ⟨rfl, hb8⟩
    have hB8 := binto E7.below (binto (below_alloc w7 _) hb8)
    clear E7 hb8 d0 d1 df dlt g0 g1 g2 g3 g4 gf glt dlt1 glt1 D7 G7 X7 x0 x1 x2 x3 x4 xf xlt xlt1 HT7 HL7 HRT7 HRL7
    dsimp only
    go_wp2_with fail
    refine (searched_any _).mono ?_
    rintro e w9 ⟨rfl, hb9⟩
    have hB := binto hB8 hb9
    dsimp only
    go_wp2_with fail
    go_ret
    exact ⟨rfl, hB⟩
  · rw [hacc] at hres
    replace hres := hres
    dsimp only at hres
    subst hres
    have HAC := Lib.hid hacc
    clear hacc
    have E1 : L4Env w #[.int .i64 W, .int .i64 H, .slice a np cp] w1 := ⟨binto (below_alloc w _) hb1, (Blk.new _ _ _).keep hb1 (by simp)⟩
    obtain ⟨k0, k1, k2, kf, klt⟩ := E1.img.d3
    have klt1 : w.heap.size < w1.heap.size + 1 := by omega
    have klt2 : w.heap.size < w1.heap.size + 1 + 1 := by omega
    clear hb1
    dsimp only
    go_wp2_with fail
    generalize hW2 : World.alloc (World.alloc w1 _) _ = W2
    have hb2 : Below w1.heap.size w1 W2 := by rw [← hW2]; exact (by repeat (first | (with_reducible exact Below.refl _ _) | (with_reducible assumption) | ((with_reducible refine Below.setCell ?_ ?_ _); rotate_left; (focus (first | omega | (simp; done) | (simp; omega)))) | (with_reducible refine Below.drew ?_) | (with_reducible refine below_drewN ?_ _) | ((with_reducible refine Below.alloc ?_ ?_ _); rotate_left; (focus (first | omega | (simp; done) | (simp; omega))))))
    have E2 := E1.keep hb2
    have G2 : Blk W2 w1.heap.size #[.int .i64 0, .int .i64 0, .int .i64 0, .slice none 0 0, .slice none 0 0] 27 := by rw [← hW2]; exact (Blk.new _ _ _).alloc _
    have D2 : Blk W2 (w1.heap.size + 1) #[.int .i64 23, .int .i64 (-1)] 29 := by rw [← hW2]; exact Blk.newAt _ _ (by simp)
    obtain ⟨bG, hbG⟩ : ∃ b, b = w1.heap.size := ⟨_, rfl⟩
    rw [← hbG] at G2 D2 ⊢
    clear hbG
    clear hW2 E1 k0 k1 k2 kf klt klt1 klt2
    refine (HF.out W2).mono ?_
    rintro e w3 ⟨rfl, hb3⟩
    have E3 := E2.keep hb3
    have D3 := D2.keep hb3 D2.lt
    have G3 := G2.keep hb3 G2.lt
    obtain ⟨d0, d1, df, dlt⟩ := D3.d2
    obtain ⟨k0, k1, k2, kf, klt⟩ := E3.img.d3
    have klt1 : w.heap.size < w3.heap.size + 1 := by omega
    clear E2 D2 G2 HF
    dsimp only
    go_wp2_with fail
    generalize hW4 : World.alloc w3 _ = W4
    have hb4 : Below w3.heap.size w3 W4 := by rw [← hW4]; exact (by repeat (first | (with_reducible exact Below.refl _ _) | (with_reducible assumption) | ((with_reducible refine Below.setCell ?_ ?_ _); rotate_left; (focus (first | omega | (simp; done) | (simp; omega)))) | (with_reducible refine Below.drew ?_) | (with_reducible refine below_drewN ?_ _) | ((with_reducible refine Below.alloc ?_ ?_ _); rotate_left; (focus (first | omega | (simp; done) | (simp; omega))))))
    have E4 := E3.keep hb4
    have D4 := D3.keep hb4 D3.lt
    have G4 := G3.keep hb4 G3.lt
    clear hW4 E3 D3 G3 d0 d1 df dlt k0 k1 k2 kf klt klt1
    refine (HO.out W4 (HI.out.below E4.below)).mono ?_
    rintro e w5 ⟨xs', hxs', q, tv', lv', hla, rfl, hrt, hrl, hb5⟩
    obtain ⟨a3, c3, rfl, -⟩ := id hrt
    obtain ⟨a4, c4, rfl, -⟩ := id hrl
    have hac : accL xs' 8 = accL xs 8 := accL_congr fun t ht => (hxs' t ht).unique (HX.out t ht)
    rw [hac] at hla ⊢
    have HRT := Lib.hid hrt
    have HRL := Lib.hid hrl
    have HLA := Lib.hid hla
    have E5 := E4.keep hb5
    have D5 := D4.keep hb5 D4.lt
    have G5 := G4.keep hb5 G4.lt
    obtain ⟨k0, k1, k2, kf, klt⟩ := E5.img.d3
    have klt1 : w.heap.size < w5.heap.size + 1 := by omega
    have hbX := binto hb2 (binto hb3 (binto hb4 hb5))
    clear E4 D4 G4 hb2 hb3 hb4 hb5 HO hac hxs' hla hrt hrl HX
    generalize hnn : (accL xs 8).length = nn
    have hnn' := hnn
    have HNN := Lib.hid hnn
    clear hnn hnn'
    go_wp2_with fail
    generalize hW6 : World.alloc w5 _ = W6
    have hb6 : Below w5.heap.size w5 W6 := by rw [← hW6]; exact (by repeat (first | (with_reducible exact Below.refl _ _) | (with_reducible assumption) | ((with_reducible refine Below.setCell ?_ ?_ _); rotate_left; (focus (first | omega | (simp; done) | (simp; omega)))) | (with_reducible refine Below.drew ?_) | (with_reducible refine below_drewN ?_ _) | ((with_reducible refine Below.alloc ?_ ?_ _); rotate_left; (focus (first | omega | (simp; done) | (simp; omega))))))
    have E6 := E5.keep hb6
    have D6 := D5.keep hb6 D5.lt
    have G6 := G5.keep hb6 G5.lt
    have X6 : Blk W6 w5.heap.size #[.int .i64 (q.1 : Nat), .int .i64 q.2.2.1, .int .i64 q.2.2.2.1, .slice a3 q.2.1.length c3, .slice a4 q.2.2.2.2.length c4] 27 := by rw [← hW6]; exact Blk.new _ _ _
    obtain ⟨bX, hbXe⟩ : ∃ b, b = w5.heap.size := ⟨_, rfl⟩
    rw [← hbXe] at X6 ⊢
    clear hbXe
    clear hW6 E5 D5 G5 k0 k1 k2 kf klt klt1
    refine (HN2.out nn W6 (by rw [← HNN.out]; exact (by rw [HAC.out]; simp))).mono ?_
    rintro e w7 ⟨rfl, hb7⟩
    have E7 := E6.keep hb7
    have D7 := D6.keep hb7 D6.lt
    have G7 := G6.keep hb7 G6.lt
    have X7 := X6.keep hb7 X6.lt
    obtain ⟨d0, d1, df, dlt⟩ := D7.d2
    obtain ⟨g0, g1, g2, g3, g4, gf, glt⟩ := G7.d5
    obtain ⟨x0, x1, x2, x3, x4, xf, xlt⟩ := X7.d5
    have dlt1 : bG + 1 < w7.heap.size + 1 := by omega
    have glt1 : bG < w7.heap.size + 1 := by omega
    have xlt1 : bX < w7.heap.size + 1 := by omega
    have hbY := binto hbX (binto hb6 hb7)
    have hb67 := binto hb6 hb7
    clear E6 D6 G6 X6 hb6 hb7 HN2 hbX
    dsimp only
    go_wp2_with fail
    refine (sameFrame_any 0 0 0 _ _ _ _ [] [] _ (reads_nil _) (reads_nil _) (reads_nil _) (reads_nil _)).mono ?_
    rintro e w8 ⟨rfl, hb8⟩
    have hB8 := binto E7.below (binto (below_alloc w7 _) hb8)
    clear E7 hb8 d0 d1 df dlt g0 g1 g2 g3 g4 gf glt dlt1 glt1 D7 G7 X7 x0 x1 x2 x3 x4 xf xlt xlt1
    dsimp only
    go_wp2_with fail
    refine (searched_any _).mono ?_
    rintro e w9 ⟨rfl, hb9⟩
    have hB := binto hB8 hb9
    dsimp only
    go_wp2_with fail
    go_ret
    exact ⟨rfl, hB⟩

end Go.Proofs.YtnfgedbcfclnmaaGreat

namespace Go.Proofs.YtnfgedbcfclnmaaGreat
open Go.ChangeShapes Go.WideShapes Go.ChangeAt Go.RowKit Go.Joins

theorem law4_any (W H : Int) (a : Option Addr) (np cp : Nat) (px : List Int) (w : World) (hr : Reads (Value.int .u8) w (.slice a np cp) px) (hb : ∀ n ∈ px, 0 ≤ n ∧ n ≤ 255) :
    Calls Tryz.prog 3 #[.agg #[.int .i64 W, .int .i64 H, .slice a np cp]] w fun e w' => e = .returned (.bool true) ∧ Below w.heap.size w w' := by
  rcases imageFault_cases W H np with h | h | h | h
  · have hnp : np = px.length := by obtain ⟨_, _, e, _⟩ := hr; injection e
    obtain ⟨⟨h1, h2⟩, ⟨h3, h4⟩, h5⟩ := imageFault_ok h
    obtain ⟨Wn, rfl⟩ : ∃ n : Nat, W = n := ⟨W.toNat, by omega⟩
    obtain ⟨Hn, rfl⟩ : ∃ n : Nat, H = n := ⟨H.toNat, by omega⟩
    exact law4_ok Wn Hn a np cp px w ⟨h1, h2, h3, h4, by rw [← hnp]; exact h5, hb, hr⟩ h
  · exact law4_bad1 W H a np cp w h
  · exact law4_bad2 W H a np cp w h
  · exact law4_bad3 W H a np cp w h

set_option maxRecDepth 100000 in
theorem law4_lifted (os : Os) (started : os.Started) (H : Type) (enc : TypeId × Value → H) :
    ReturnsInHanded {} Tryz.checked os 3 .any (Rows.locateFindMatchesSpecSpec.pre6 enc Tryz.prog Tryz.f3 Rows.locateFindMatchesSpecRow.domain false) (Rows.locateFindMatchesSpecSpec.post enc Tryz.prog Tryz.f3 false true false false) := by
  refine returnsInHanded_of_change (C := Tryz.checked) Tryz.own started (by kernel_rfl) Tryz.func3
    (ChangeSpec.witness6 (enc := enc) (C := Tryz.checked) false ⟨#[], #[.agg #[.int .i64 0, .int .i64 0, .slice none 0 0]], []⟩ 8 (by kernel_rfl) (by kernel_rfl) (by kernel_rfl) (by kernel_rfl)) ?_
  intro W base args ds gs before hval0 hW hcnd _
  have hval : ∀ (j : Nat) t v, Tryz.f3.params[j]? = some t → args[j]? = some v → Value.okWide Tryz.prog W .any base t v := hval0
  have hW' := hW
  obtain ⟨p, q, hA0, hV, rfl, hfz, hnd⟩ := hW
  have hA : DataW.TrodAll enc Tryz.prog W 0 (fun _ => true) true Tryz.f3.params.toList args.toList ds p := hA0
  rw [Tryz.params3] at hA hval
  obtain ⟨v0, d0, rfl, rfl, h0⟩ := trodAll_one hA
  obtain ⟨rfl, rfl⟩ := trodVars_none hV
  have k0 := h0
  have lt0 : ∀ x ∈ p, x.block < W.heap.size := by obtain ⟨m, hm⟩ := k0; exact DataW.trod_lt m _ _ _ hm
  obtain ⟨x, y, a, np, cp, px, rfl, hr, hb⟩ := open_image (hval 0 24 v0 rfl rfl) h0
  clear hA0 hval0
  refine (law4_any x y a np cp px W hr hb).mono fun e W' ⟨he, bel⟩ => ?_
  subst he
  exact ⟨_, rfl, _, _, _, [], _, [], hW', trodAll_mk1 (shut_bool Tryz.underlying4 _), trodAll_mk1 (Below.trod Tryz.laidOut (by kernel_rfl) (of_decide_eq_true (by kernel_rfl)) k0 bel lt0), rfl, bel.frame _, fun h => by cases h⟩

theorem find_holds : Rows.LocateFindMatchesSpecSaid :=
  OpenClaim.holds_of_wide 3 Tryz.f3 rfl rfl rfl rfl rfl rfl rfl ⟨rfl, rfl, rfl, rfl, rfl⟩ rfl rfl rfl rfl rfl (by kernel_rfl) Tryz.func3 (by kernel_rfl)
    (of_decide_eq_true (by kernel_rfl)) (by unfold Func.isWrapper; rw [if_neg (of_decide_eq_false (by kernel_rfl))]; exact ⟨rfl, rfl⟩)
    (fun os started H enc _ => law4_lifted os started H enc)

end Go.Proofs.YtnfgedbcfclnmaaGreat
