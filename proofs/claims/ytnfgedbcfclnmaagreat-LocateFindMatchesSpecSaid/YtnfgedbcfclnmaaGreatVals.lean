/- Plain facts on possible values: between two there is no gap, they are bounded, a line whose slope fits yields one. -/
import Derived.Test.YtnfgedbcfclnmaaGreatSlope
set_option linter.unusedVariables false
set_option linter.unusedSimpArgs false
namespace Go.Proofs.YtnfgedbcfclnmaaGreat

def valC (l : List (Int × Int)) (x v : Int) (c : Int × Int) : Prop := (∃ a ∈ l, pairC a (x, v) c) ∨ listC l c

theorem valC_lin {l : List (Int × Int)} {x v : Int} {c : Int × Int} (h : valC l x v c) : ∃ g e X : Int, c = (g * v + e, X) ∧ ∀ u, valC l x u (g * u + e, X) := by
  rcases h with ⟨a, ha, hp⟩ | h
  · rcases hp with ⟨h1, h2⟩ | ⟨h1, h2⟩
    · exact ⟨1, -a.2, x - a.1, by rw [h2]; simp; omega, fun u => .inl ⟨a, ha, .inl ⟨h1, by simp; omega⟩⟩⟩
    · exact ⟨-1, a.2, a.1 - x, by rw [h2]; simp; omega, fun u => .inl ⟨a, ha, .inr ⟨h1, by simp; omega⟩⟩⟩
  · exact ⟨0, c.1, c.2, by simp, fun u => .inr (by simpa using h)⟩

theorem lin_between {A B u v w : Int} (h1 : A * u < B) (h2 : A * w < B) (huv : u ≤ v) (hvw : v ≤ w) : A * v < B := by
  rcases Int.le_total 0 A with h | h
  · have := Int.mul_le_mul_of_nonneg_left hvw h; omega
  · have := Int.mul_le_mul_of_nonneg_left huv (show 0 ≤ -A by omega)
    rw [Int.neg_mul, Int.neg_mul] at this; omega

theorem PossV.between {l : List (Int × Int)} {x u v w : Int} (h1 : PossV l x u) (h2 : PossV l x w) (huv : u ≤ v) (hvw : v ≤ w) : PossV l x v := by
  intro c d hc hd
  obtain ⟨g, e, X, rfl, k⟩ := valC_lin hc
  obtain ⟨g', e', Y, rfl, k'⟩ := valC_lin hd
  have a1 := h1 _ _ (k u) (k' u)
  have a2 := h2 _ _ (k w) (k' w)
  dsimp only at *
  have b1 : (g * Y - g' * X) * u < (e' + 1) * X - (e - 1) * Y := by grind
  have b2 : (g * Y - g' * X) * w < (e' + 1) * X - (e - 1) * Y := by grind
  have b := lin_between b1 b2 huv hvw
  grind

/-- Small points: what stands in a list that is completed. -/
def PtS (p : Int × Int) : Prop := 0 ≤ p.1 ∧ p.1 ≤ 10000 ∧ 0 ≤ p.2 ∧ p.2 ≤ 10000
theorem PtS.ok {p : Int × Int} (h : PtS p) : PtOk p := by obtain ⟨a, b, c, d⟩ := h; exact ⟨by omega, by omega, by omega, by omega⟩

theorem listC_bd {l : List (Int × Int)} (hl : ∀ a ∈ l, PtS a) {c : Int × Int} (h : listC l c) : 0 < c.2 ∧ c.2 ≤ 10000 ∧ -10000 ≤ c.1 ∧ c.1 ≤ 10000 := by
  obtain ⟨i, j, p, q, h1, h2, -, h3⟩ := h
  obtain ⟨p1, p2, p3, p4⟩ := hl p (List.mem_of_getElem? h1)
  obtain ⟨q1, q2, q3, q4⟩ := hl q (List.mem_of_getElem? h2)
  rcases h3 with ⟨h3, rfl⟩ | ⟨h3, rfl⟩ <;> dsimp only <;> omega

theorem mul_ge_of {a b : Int} (ha : 0 ≤ a) (hb : 0 < b) : a ≤ a * b := by
  have := Int.mul_le_mul_of_nonneg_left (show 1 ≤ b by omega) ha; omega
theorem mul_bd {a b A B : Int} (ha : -A ≤ a ∧ a ≤ A) (hb : 0 ≤ b ∧ b ≤ B) (hA : 0 ≤ A) : -(A * B) ≤ a * b ∧ a * b ≤ A * B := by
  have h1 := Int.mul_le_mul_of_nonneg_right ha.1 hb.1
  have h2 := Int.mul_le_mul_of_nonneg_right ha.2 hb.1
  have h3 := Int.mul_le_mul_of_nonneg_left hb.2 hA
  rw [Int.neg_mul] at h1
  omega

/-- Where there is a slope's bound, possible values are bounded. -/
theorem PossV.bound {l : List (Int × Int)} {x v : Int} (hl : ∀ a ∈ l, PtS a) (hx : 0 ≤ x ∧ x ≤ 10000) (hxl : ∀ a ∈ l, a.1 ≠ x) {c : Int × Int} (hc : listC l c) (h : PossV l x v) : -110000000 ≤ v ∧ v ≤ 110000000 := by
  obtain ⟨c1, c2, c3, c4⟩ := listC_bd hl hc
  obtain ⟨i, j, p, q, h1, -⟩ := id hc
  have hpm := List.mem_of_getElem? h1
  obtain ⟨p1, p2, p3, p4⟩ := hl p hpm
  have hne := hxl p hpm
  rcases Int.lt_or_gt_of_ne hne with g | g
  · have k1 := h (v - p.2, x - p.1) c (.inl ⟨p, hpm, .inl ⟨g, rfl⟩⟩) (.inr hc)
    have k2 := h c (v - p.2, x - p.1) (.inr hc) (.inl ⟨p, hpm, .inl ⟨g, rfl⟩⟩)
    dsimp only at k1 k2
    have b1 := mul_bd (A := 10001) (B := 10000) (show -10001 ≤ c.1 + 1 ∧ c.1 + 1 ≤ 10001 by omega) (show 0 ≤ x - p.1 ∧ x - p.1 ≤ 10000 by omega) (by omega)
    have b2 := mul_bd (A := 10001) (B := 10000) (show -10001 ≤ c.1 - 1 ∧ c.1 - 1 ≤ 10001 by omega) (show 0 ≤ x - p.1 ∧ x - p.1 ≤ 10000 by omega) (by omega)
    constructor
    · rcases Int.le_total 0 (v - p.2 + 1) with g1 | g1
      · omega
      · have := mul_ge_of (show 0 ≤ -(v - p.2 + 1) by omega) c1
        rw [Int.neg_mul] at this; omega
    · rcases Int.le_total 0 (v - p.2 - 1) with g1 | g1
      · have := mul_ge_of g1 c1; omega
      · omega
  · have k1 := h (p.2 - v, p.1 - x) c (.inl ⟨p, hpm, .inr ⟨g, rfl⟩⟩) (.inr hc)
    have k2 := h c (p.2 - v, p.1 - x) (.inr hc) (.inl ⟨p, hpm, .inr ⟨g, rfl⟩⟩)
    dsimp only at k1 k2
    have b1 := mul_bd (A := 10001) (B := 10000) (show -10001 ≤ c.1 + 1 ∧ c.1 + 1 ≤ 10001 by omega) (show 0 ≤ p.1 - x ∧ p.1 - x ≤ 10000 by omega) (by omega)
    have b2 := mul_bd (A := 10001) (B := 10000) (show -10001 ≤ c.1 - 1 ∧ c.1 - 1 ≤ 10001 by omega) (show 0 ≤ p.1 - x ∧ p.1 - x ≤ 10000 by omega) (by omega)
    constructor
    · rcases Int.le_total 0 (p.2 - v - 1) with g1 | g1
      · have := mul_ge_of g1 c1; omega
      · omega
    · rcases Int.le_total 0 (p.2 - v + 1) with g1 | g1
      · omega
      · have := mul_ge_of (show 0 ≤ -(p.2 - v + 1) by omega) c1
        rw [Int.neg_mul] at this; omega

/-- The slope P/Q fits the conditions. -/
def Fits (C : Int × Int → Prop) (P Q : Int) : Prop := ∀ c, C c → (c.1 - 1) * Q < P * c.2 ∧ P * c.2 < (c.1 + 1) * Q

theorem Fits.cons {C : Int × Int → Prop} {P Q : Int} (hQ : 0 < Q) (hC : ∀ c, C c → 0 < c.2) (h : Fits C P Q) : Cons C := fun c d hc hd =>
  frac_lt_le (hC c hc) hQ (hC d hd) (h c hc).1 (Int.le_of_lt (h d hd).2)

/-- The greatest of Q*Y - P*X. -/
def IsB (l : List (Int × Int)) (P Q B : Int) : Prop := (∃ a ∈ l, B = Q * a.2 - P * a.1) ∧ ∀ a ∈ l, Q * a.2 - P * a.1 ≤ B

theorem line_through {l : List (Int × Int)} (hi : Incr l) {P Q B : Int} (hQ : 0 < Q) (hf : Fits (listC l) P Q) (hB : IsB l P Q B) {a : Int × Int} (ha : a ∈ l) : Q * a.2 ≤ P * a.1 + B ∧ P * a.1 + B < Q * (a.2 + 1) := by
  obtain ⟨⟨k, hk, hBk⟩, hmax⟩ := hB
  have h1 := hmax a ha
  refine ⟨by omega, ?_⟩
  obtain ⟨i, hi'⟩ := List.getElem?_of_mem ha
  obtain ⟨j, hj⟩ := List.getElem?_of_mem hk
  rcases Nat.lt_trichotomy i j with g | g | g
  · have hx := hi i j a k hi' hj g
    have := (hf (k.2 - a.2, k.1 - a.1) ⟨i, j, a, k, hi', hj, g, .inl ⟨hx, rfl⟩⟩).1
    dsimp only at this
    grind
  · subst g
    rw [hi'] at hj
    obtain rfl := Option.some.inj hj
    grind
  · have hx := hi j i k a hj hi' g
    have := (hf (a.2 - k.2, a.1 - k.1) ⟨j, i, k, a, hj, hi', g, .inl ⟨hx, rfl⟩⟩).2
    dsimp only at this
    grind

theorem valC_pos {l : List (Int × Int)} (hl : ∀ a ∈ l, PtS a) {x v : Int} {c : Int × Int} (h : valC l x v c) : 0 < c.2 := by
  rcases h with ⟨a, ha, h⟩ | h
  · rcases h with ⟨h1, rfl⟩ | ⟨h1, rfl⟩ <;> dsimp only <;> omega
  · exact (listC_bd hl h).1

/-- The value of a line whose slope fits. -/
theorem mid_poss {l : List (Int × Int)} (hl : ∀ a ∈ l, PtS a) (hi : Incr l) {P Q B x : Int} (hQ : 0 < Q) (hf : Fits (listC l) P Q) (hB : IsB l P Q B) : PossV l x ((P * x + B) / Q) := by
  have m1 := Int.mul_ediv_add_emod (P * x + B) Q
  have m2 := Int.emod_nonneg (P * x + B) (show Q ≠ 0 by omega)
  have m3 := Int.emod_lt_of_pos (P * x + B) hQ
  generalize (P * x + B) / Q = v at *
  generalize (P * x + B) % Q = r at *
  refine Fits.cons (P := P) hQ (fun c hc => valC_pos hl hc) (fun c hc => ?_)
  rcases hc with ⟨a, ha, h⟩ | h
  · obtain ⟨t1, t2⟩ := line_through hi hQ hf hB ha
    rcases h with ⟨h1, rfl⟩ | ⟨h1, rfl⟩
    · dsimp only; constructor <;> grind
    · dsimp only; constructor <;> grind
  · exact hf c h

/-- A slope that lies within an interval that stands for C fits C. -/
theorem Rep.fits {s : Slo} {C : Int × Int → Prop} (h : Rep s C) (hbd : s.bd = true) {P Q : Int} (hQ : 0 < Q) (h1 : s.la * Q < P * s.lb) (h2 : P * s.hb < s.ha * Q) : Fits C P Q := by
  rcases h with ⟨e, _⟩ | ⟨-, k2, k3, k4, -, k6, -, k8⟩
  · rw [e] at hbd; cases hbd
  · exact fun c hc => ⟨frac_le_lt (k4 c hc) k2 hQ (k6 c hc) h1, frac_lt_le hQ k3 (k4 c hc) h2 (k8 c hc)⟩

theorem exists_B {l : List (Int × Int)} (hne : l ≠ []) (P Q : Int) : ∃ B, IsB l P Q B := by
  induction l with
  | nil => exact absurd rfl hne
  | cons a l ih =>
    by_cases hl : l = []
    · subst hl
      exact ⟨_, ⟨a, by simp, rfl⟩, fun b hb => by simp at hb; subst hb; exact Int.le_refl _⟩
    · obtain ⟨B, ⟨k, hk, hBk⟩, hmax⟩ := ih hl
      by_cases hle : Q * a.2 - P * a.1 ≤ B
      · exact ⟨B, ⟨k, by simp [hk], hBk⟩, fun b hb => by
          rcases List.mem_cons.1 hb with rfl | hb
          · exact hle
          · exact hmax b hb⟩
      · exact ⟨_, ⟨a, by simp, rfl⟩, fun b hb => by
          rcases List.mem_cons.1 hb with rfl | hb
          · exact Int.le_refl _
          · have := hmax b hb; omega⟩

/-- Around the line of the least slope there is a possible value. -/
theorem near_low {l : List (Int × Int)} (hl : ∀ a ∈ l, PtS a) (hi : Incr l) {s : Slo} (hr : Rep s (listC l)) (hbd : s.bd = true) (hp : possF s = true) {a : Int × Int} (ha : a ∈ l) {x : Int} (hx : 0 ≤ x ∧ x ≤ 10000) :
    ∃ v, PossV l x v ∧ a.2 + s.la * (x - a.1) / s.lb - 3 ≤ v ∧ v ≤ a.2 + s.la * (x - a.1) / s.lb + 3 := by
  have hr0 := hr
  rcases hr with ⟨e, _⟩ | ⟨-, k2, k3, k4, ⟨cl, j1, j2, j3⟩, k6, ⟨ch, i1, i2, i3⟩, k8⟩
  · rw [e] at hbd; cases hbd
  simp only [possF, hbd, lessB, Bool.not_true, Bool.false_or, decide_eq_true_eq] at hp
  obtain ⟨b1, b2, b3, b4⟩ := listC_bd hl j1
  obtain ⟨d1, d2, d3, d4⟩ := listC_bd hl i1
  obtain ⟨a1, a2, a3, a4⟩ := hl a ha
  have hQ : 0 < s.lb * 10000000000000 + s.hb := by omega
  have hf : Fits (listC l) (s.la * 10000000000000 + s.ha) (s.lb * 10000000000000 + s.hb) := by
    refine hr0.fits hbd hQ ?_ ?_ <;> grind
  have hne : l ≠ [] := fun e => by rw [e] at ha; simp at ha
  obtain ⟨B, hB⟩ := exists_B hne (s.la * 10000000000000 + s.ha) (s.lb * 10000000000000 + s.hb)
  refine ⟨_, mid_poss hl hi (x := x) hQ hf hB, ?_⟩
  obtain ⟨t1, t2⟩ := line_through hi hQ hf hB ha
  have m1 := Int.mul_ediv_add_emod ((s.la * 10000000000000 + s.ha) * x + B) (s.lb * 10000000000000 + s.hb)
  have m2 := Int.emod_nonneg ((s.la * 10000000000000 + s.ha) * x + B) (show s.lb * 10000000000000 + s.hb ≠ 0 by omega)
  have m3 := Int.emod_lt_of_pos ((s.la * 10000000000000 + s.ha) * x + B) hQ
  have n1 := Int.mul_ediv_add_emod (s.la * (x - a.1)) s.lb
  have n2 := Int.emod_nonneg (s.la * (x - a.1)) (show s.lb ≠ 0 by omega)
  have n3 := Int.emod_lt_of_pos (s.la * (x - a.1)) k2
  generalize ((s.la * 10000000000000 + s.ha) * x + B) / (s.lb * 10000000000000 + s.hb) = v at *
  generalize ((s.la * 10000000000000 + s.ha) * x + B) % (s.lb * 10000000000000 + s.hb) = r at *
  generalize s.la * (x - a.1) / s.lb = f at *
  generalize s.la * (x - a.1) % s.lb = g at *
  -- Q (v - a.2) lies within Q of P (x - a.1); P (x - a.1) = K (lb f + g) + ha (x - a.1)
  have u1 : (s.lb * 10000000000000 + s.hb) * (v - a.2) < (s.la * 10000000000000 + s.ha) * (x - a.1) + (s.lb * 10000000000000 + s.hb) := by grind
  have u2 : (s.la * 10000000000000 + s.ha) * (x - a.1) - (s.lb * 10000000000000 + s.hb) < (s.lb * 10000000000000 + s.hb) * (v - a.2) := by grind
  have u3 : (s.la * 10000000000000 + s.ha) * (x - a.1) = 10000000000000 * (s.lb * f + g) + s.ha * (x - a.1) := by grind
  have h1 := mul_bd (A := 10001) (B := 10000) (show -10001 ≤ s.ha ∧ s.ha ≤ 10001 by omega) (show 0 ≤ (if a.1 ≤ x then x - a.1 else a.1 - x) ∧ (if a.1 ≤ x then x - a.1 else a.1 - x) ≤ 10000 by split <;> omega) (by omega)
  have h2 : -100010000 ≤ s.ha * (x - a.1) ∧ s.ha * (x - a.1) ≤ 100010000 := by
    by_cases hle : a.1 ≤ x
    · rw [if_pos hle] at h1; omega
    · rw [if_neg hle] at h1
      have : s.ha * (x - a.1) = -(s.ha * (a.1 - x)) := by grind
      omega
  obtain ⟨t, ht⟩ : ∃ t, t = v - a.2 - f := ⟨_, rfl⟩
  have hv : v - a.2 = t + f := by omega
  rw [hv] at u1 u2
  have hft : -200030000 ≤ f ∧ f ≤ 200030000 := by
    have h3 := mul_bd (A := 10001) (B := 10000) (show -10001 ≤ s.la ∧ s.la ≤ 10001 by omega) (show 0 ≤ (if a.1 ≤ x then x - a.1 else a.1 - x) ∧ (if a.1 ≤ x then x - a.1 else a.1 - x) ≤ 10000 by split <;> omega) (by omega)
    have h4 : -100010000 ≤ s.la * (x - a.1) ∧ s.la * (x - a.1) ≤ 100010000 := by
      by_cases hle : a.1 ≤ x
      · rw [if_pos hle] at h3; omega
      · rw [if_neg hle] at h3
        have : s.la * (x - a.1) = -(s.la * (a.1 - x)) := by grind
        omega
    have hc : s.lb * f = f * s.lb := Int.mul_comm _ _
    constructor
    · rcases Int.le_total 0 f with g1 | g1
      · omega
      · have := mul_ge_of (show 0 ≤ -f by omega) k2
        rw [Int.neg_mul] at this; omega
    · rcases Int.le_total 0 f with g1 | g1
      · have := mul_ge_of g1 k2; omega
      · omega
  have hb1 : s.hb * f ≤ 10000 * 200030000 ∧ -(10000 * 200030000) ≤ s.hb * f := by
    have := mul_bd (A := 200030000) (B := 10000) hft (show 0 ≤ s.hb ∧ s.hb ≤ 10000 by omega) (by omega)
    rw [Int.mul_comm s.hb f]; omega
  have hlt : -3 ≤ t ∧ t ≤ 3 := by
    constructor
    · rcases Int.lt_or_le t (-3) with g1 | g1
      · have := Int.mul_le_mul_of_nonneg_left (show t ≤ -4 by omega) (show 0 ≤ s.lb * 10000000000000 + s.hb by omega)
        have e1 : (s.lb * 10000000000000 + s.hb) * (t + f) = (s.lb * 10000000000000 + s.hb) * t + 10000000000000 * (s.lb * f) + s.hb * f := by grind
        omega
      · exact g1
    · rcases Int.lt_or_le 3 t with g1 | g1
      · have := Int.mul_le_mul_of_nonneg_left (show 4 ≤ t by omega) (show 0 ≤ s.lb * 10000000000000 + s.hb by omega)
        have e1 : (s.lb * 10000000000000 + s.hb) * (t + f) = (s.lb * 10000000000000 + s.hb) * t + 10000000000000 * (s.lb * f) + s.hb * f := by grind
        omega
      · exact g1
  omega

end Go.Proofs.YtnfgedbcfclnmaaGreat
