/- Plain facts on slopes: what an interval that was put together out of pairs of points tells; possible values; no program in sight. -/
import Derived.Test.YtnfgedbcfclnmaaGreatAll
set_option linter.unusedVariables false
set_option linter.unusedSimpArgs false
namespace Go.Proofs.YtnfgedbcfclnmaaGreat

theorem mul_lt_cancel {a b c : Int} (hc : 0 < c) (h : a * c < b * c) : a < b := Int.lt_of_mul_lt_mul_right h (Int.le_of_lt hc)
theorem mul_le_cancel {a b c : Int} (hc : 0 < c) (h : a * c ≤ b * c) : a ≤ b := Int.le_of_mul_le_mul_right h hc

/-- a/b ≤ c/d < e/f. -/
theorem frac_le_lt {a b c d e f : Int} (hb : 0 < b) (hd : 0 < d) (hf : 0 < f) (h1 : a * d ≤ c * b) (h2 : c * f < e * d) : a * f < e * b := by
  apply mul_lt_cancel hd
  have k1 := Int.mul_le_mul_of_nonneg_right h1 (Int.le_of_lt hf)
  have k2 := Int.mul_lt_mul_of_pos_right h2 hb
  have e1 : a * f * d = a * d * f := by rw [Int.mul_assoc, Int.mul_comm f d, ← Int.mul_assoc]
  have e2 : c * b * f = c * f * b := by rw [Int.mul_assoc, Int.mul_comm b f, ← Int.mul_assoc]
  have e3 : e * d * b = e * b * d := by rw [Int.mul_assoc, Int.mul_comm d b, ← Int.mul_assoc]
  omega
theorem frac_lt_le {a b c d e f : Int} (hb : 0 < b) (hd : 0 < d) (hf : 0 < f) (h1 : a * d < c * b) (h2 : c * f ≤ e * d) : a * f < e * b := by
  apply mul_lt_cancel hd
  have k1 := Int.mul_lt_mul_of_pos_right h1 hf
  have k2 := Int.mul_le_mul_of_nonneg_right h2 (Int.le_of_lt hb)
  have e1 : a * f * d = a * d * f := by rw [Int.mul_assoc, Int.mul_comm f d, ← Int.mul_assoc]
  have e2 : c * b * f = c * f * b := by rw [Int.mul_assoc, Int.mul_comm b f, ← Int.mul_assoc]
  have e3 : e * d * b = e * b * d := by rw [Int.mul_assoc, Int.mul_comm d b, ← Int.mul_assoc]
  omega
theorem frac_le_le {a b c d e f : Int} (hb : 0 < b) (hd : 0 < d) (hf : 0 < f) (h1 : a * d ≤ c * b) (h2 : c * f ≤ e * d) : a * f ≤ e * b := by
  apply mul_le_cancel hd
  have k1 := Int.mul_le_mul_of_nonneg_right h1 (Int.le_of_lt hf)
  have k2 := Int.mul_le_mul_of_nonneg_right h2 (Int.le_of_lt hb)
  have e1 : a * f * d = a * d * f := by rw [Int.mul_assoc, Int.mul_comm f d, ← Int.mul_assoc]
  have e2 : c * b * f = c * f * b := by rw [Int.mul_assoc, Int.mul_comm b f, ← Int.mul_assoc]
  have e3 : e * d * b = e * b * d := by rw [Int.mul_assoc, Int.mul_comm d b, ← Int.mul_assoc]
  omega

/-- The interval s stands for the conditions C (pairs dy, dx with dx > 0). -/
def Rep (s : Slo) (C : Int × Int → Prop) : Prop :=
  (s.bd = false ∧ ∀ c, ¬ C c) ∨
  (s.bd = true ∧ 0 < s.lb ∧ 0 < s.hb ∧ (∀ c, C c → 0 < c.2) ∧ (∃ c, C c ∧ s.la = c.1 - 1 ∧ s.lb = c.2) ∧ (∀ c, C c → (c.1 - 1) * s.lb ≤ s.la * c.2) ∧
    (∃ c, C c ∧ s.ha = c.1 + 1 ∧ s.hb = c.2) ∧ ∀ c, C c → s.ha * c.2 ≤ (c.1 + 1) * s.hb)

theorem Rep.congr {s : Slo} {C D : Int × Int → Prop} (h : Rep s C) (e : ∀ c, C c ↔ D c) : Rep s D := by
  have : C = D := funext fun c => propext (e c)
  exact this ▸ h

theorem rep_zero : Rep Slo.zero (fun _ => False) := .inl ⟨rfl, fun _ h => h⟩

theorem Rep.add {s : Slo} {C : Int × Int → Prop} (h : Rep s C) {dy dx : Int} (hx : 0 < dx) : Rep (s.add dy dx) (fun c => c = (dy, dx) ∨ C c) := by
  right
  rcases h with ⟨h1, h2⟩ | ⟨h1, h2, h3, h4, ⟨cl, k1, k2, k3⟩, h6, ⟨ch, j1, j2, j3⟩, h8⟩
  · have e : s.add dy dx = ⟨dy - 1, dx, dy + 1, dx, true⟩ := by simp [Slo.add, h1]
    rw [e]
    have all : ∀ c, (c = (dy, dx) ∨ C c) → c = (dy, dx) := fun c hc => hc.resolve_right (h2 c)
    refine ⟨rfl, hx, hx, fun c hc => by rw [all c hc]; exact hx, ⟨(dy, dx), .inl rfl, rfl, rfl⟩, fun c hc => by rw [all c hc]; exact Int.le_refl _, ⟨(dy, dx), .inl rfl, rfl, rfl⟩, fun c hc => by rw [all c hc]; exact Int.le_refl _⟩
  · refine ⟨rfl, ?_, ?_, ?_, ?_, ?_, ?_, ?_⟩
    · simp only [Slo.add]; split <;> assumption
    · simp only [Slo.add]; split <;> assumption
    · rintro c (rfl | hc)
      · exact hx
      · exact h4 c hc
    · by_cases t : lessB s.la s.lb (dy - 1) dx = true
      · exact ⟨(dy, dx), .inl rfl, by simp [Slo.add, t], by simp [Slo.add, t]⟩
      · exact ⟨cl, .inr k1, (by simp [Slo.add, t, h1] : (s.add dy dx).la = s.la).trans k2, (by simp [Slo.add, t, h1] : (s.add dy dx).lb = s.lb).trans k3⟩
    · by_cases t : lessB s.la s.lb (dy - 1) dx = true
      · have e1 : (s.add dy dx).la = dy - 1 := by simp [Slo.add, t]
        have e2 : (s.add dy dx).lb = dx := by simp [Slo.add, t]
        rw [e1, e2]
        simp only [lessB, decide_eq_true_eq] at t
        rintro c (rfl | hc)
        · exact Int.le_refl _
        · exact Int.le_of_lt (frac_le_lt (h4 c hc) h2 hx (h6 c hc) t)
      · have e1 : (s.add dy dx).la = s.la := by simp [Slo.add, t, h1]
        have e2 : (s.add dy dx).lb = s.lb := by simp [Slo.add, t, h1]
        rw [e1, e2]
        simp only [lessB, decide_eq_true_eq, Int.not_lt] at t
        rintro c (rfl | hc)
        · exact t
        · exact h6 c hc
    · by_cases t : lessB (dy + 1) dx s.ha s.hb = true
      · exact ⟨(dy, dx), .inl rfl, by simp [Slo.add, t], by simp [Slo.add, t]⟩
      · exact ⟨ch, .inr j1, (by simp [Slo.add, t, h1] : (s.add dy dx).ha = s.ha).trans j2, (by simp [Slo.add, t, h1] : (s.add dy dx).hb = s.hb).trans j3⟩
    · by_cases t : lessB (dy + 1) dx s.ha s.hb = true
      · have e1 : (s.add dy dx).ha = dy + 1 := by simp [Slo.add, t]
        have e2 : (s.add dy dx).hb = dx := by simp [Slo.add, t]
        rw [e1, e2]
        simp only [lessB, decide_eq_true_eq] at t
        rintro c (rfl | hc)
        · exact Int.le_refl _
        · exact Int.le_of_lt (frac_lt_le hx h3 (h4 c hc) t (h8 c hc))
      · have e1 : (s.add dy dx).ha = s.ha := by simp [Slo.add, t, h1]
        have e2 : (s.add dy dx).hb = s.hb := by simp [Slo.add, t, h1]
        rw [e1, e2]
        simp only [lessB, decide_eq_true_eq, Int.not_lt] at t
        rintro c (rfl | hc)
        · exact t
        · exact h8 c hc

/-- The conditions can be met together. -/
def Cons (C : Int × Int → Prop) : Prop := ∀ c d, C c → C d → (c.1 - 1) * d.2 < (d.1 + 1) * c.2

theorem Rep.poss {s : Slo} {C : Int × Int → Prop} (h : Rep s C) : possF s = true ↔ Cons C := by
  rcases h with ⟨h1, h2⟩ | ⟨h1, h2, h3, h4, ⟨cl, k1, k2, k3⟩, h6, ⟨ch, j1, j2, j3⟩, h8⟩
  · simp [possF, h1]
    exact fun c d hc _ => absurd hc (h2 c)
  · simp only [possF, h1, lessB, Bool.not_true, Bool.false_or, decide_eq_true_eq]
    constructor
    · intro hlt c d hc hd
      have g1 := frac_le_lt (h4 c hc) h2 h3 (h6 c hc) hlt
      exact frac_lt_le (h4 c hc) h3 (h4 d hd) g1 (h8 d hd)
    · intro hC
      have := hC cl ch k1 j1
      rw [k2, j2, k3, j3]; exact this

/-- The condition that two points give. -/
def pairC (p q : Int × Int) (c : Int × Int) : Prop := (p.1 < q.1 ∧ c = (q.2 - p.2, q.1 - p.1)) ∨ (q.1 < p.1 ∧ c = (p.2 - q.2, p.1 - q.1))
theorem pairC_comm {p q c : Int × Int} : pairC p q c ↔ pairC q p c := by unfold pairC; exact Or.comm

theorem Rep.join {s : Slo} {C : Int × Int → Prop} (h : Rep s C) {p q : Int × Int} (hne : p.1 ≠ q.1) : Rep (joinF s p q) (fun c => pairC p q c ∨ C c) := by
  unfold joinF
  by_cases hlt : q.1 < p.1
  · rw [if_pos hlt]
    refine (h.add (by omega)).congr fun c => ?_
    unfold pairC
    constructor
    · rintro (e | e)
      · exact .inl (.inr ⟨hlt, e⟩)
      · exact .inr e
    · rintro ((e | e) | e)
      · omega
      · exact .inl e.2
      · exact .inr e
  · rw [if_neg hlt]
    refine (h.add (by omega)).congr fun c => ?_
    unfold pairC
    constructor
    · rintro (e | e)
      · exact .inl (.inl ⟨by omega, e⟩)
      · exact .inr e
    · rintro ((e | e) | e)
      · exact .inl e.2
      · omega
      · exact .inr e

theorem Rep.with {s : Slo} {C : Int × Int → Prop} (h : Rep s C) {l : List (Int × Int)} {p : Int × Int} (hne : ∀ a ∈ l, a.1 ≠ p.1) :
    Rep (withF s l p) (fun c => (∃ a ∈ l, pairC a p c) ∨ C c) := by
  unfold withF
  induction l generalizing s C with
  | nil => exact h.congr fun c => by simp
  | cons a l ih =>
    refine (ih (h.join (hne a (by simp))) (fun b hb => hne b (by simp [hb]))).congr fun c => ?_
    simp only [List.mem_cons, exists_eq_or_imp]
    constructor
    · rintro (e | e | e)
      · exact .inl (.inr e)
      · exact .inl (.inl e)
      · exact .inr e
    · rintro ((e | e) | e)
      · exact .inr (.inl e)
      · exact .inl e
      · exact .inr (.inr e)

theorem Rep.row {s : Slo} {C : Int × Int → Prop} (h : Rep s C) {l : List (Int × Int)} {p : Int × Int} (hne : ∀ a ∈ l, p.1 ≠ a.1) :
    Rep (rowF s p l) (fun c => (∃ a ∈ l, pairC a p c) ∨ C c) := by
  unfold rowF
  induction l generalizing s C with
  | nil => exact h.congr fun c => by simp
  | cons a l ih =>
    refine (ih (h.join (hne a (by simp))) (fun b hb => hne b (by simp [hb]))).congr fun c => ?_
    simp only [List.mem_cons, exists_eq_or_imp]
    constructor
    · rintro (e | e | e)
      · exact .inl (.inr e)
      · exact .inl (.inl (pairC_comm.1 e))
      · exact .inr e
    · rintro ((e | e) | e)
      · exact .inr (.inl (pairC_comm.1 e))
      · exact .inl e
      · exact .inr (.inr e)

/-- The conditions of all pairs of a list. -/
def listC (l : List (Int × Int)) (c : Int × Int) : Prop := ∃ (i j : Nat) (p q : Int × Int), l[i]? = some p ∧ l[j]? = some q ∧ i < j ∧ pairC p q c

theorem rep_all {l : List (Int × Int)} (hi : Incr l) : Rep (allF l) (listC l) := by
  have key : ∀ k, k ≤ l.length → Rep (allTo l k) (fun c => ∃ (i j : Nat) (p q : Int × Int), l[i]? = some p ∧ l[j]? = some q ∧ i < j ∧ j < k ∧ pairC p q c) := by
    intro k
    induction k with
    | zero => exact fun _ => rep_zero.congr fun c => ⟨fun h => h.elim, fun ⟨i, j, p, q, _, _, _, h, _⟩ => by omega⟩
    | succ k ih =>
      intro hk
      have hp := getD_some (d := ((0 : Int), (0 : Int))) (by omega : k < l.length)
      refine ((ih (by omega)).row (l := l.take k) (p := l.getD k (0, 0)) ?_).congr fun c => ?_
      · intro a ha
        obtain ⟨j, hj⟩ := List.getElem?_of_mem ha
        rw [List.getElem?_take] at hj
        split at hj
        · exact hi.ne hp hj (by omega)
        · cases hj
      · constructor
        · rintro (⟨a, ha, e⟩ | ⟨i, j, p, q, h1, h2, h3, h4, h5⟩)
          · obtain ⟨j, hj⟩ := List.getElem?_of_mem ha
            rw [List.getElem?_take] at hj
            split at hj
            · exact ⟨j, k, a, _, hj, hp, by omega, by omega, e⟩
            · cases hj
          · exact ⟨i, j, p, q, h1, h2, h3, by omega, h5⟩
        · rintro ⟨i, j, p, q, h1, h2, h3, h4, h5⟩
          rcases Nat.lt_or_ge j k with g | g
          · exact .inr ⟨i, j, p, q, h1, h2, h3, g, h5⟩
          · obtain rfl : j = k := by omega
            rw [hp] at h2
            obtain rfl := Option.some.inj h2
            exact .inl ⟨p, List.mem_of_getElem? (i := i) (by rw [List.getElem?_take, if_pos h3]; exact h1), h5⟩
  refine (key _ (Nat.le_refl _)).congr fun c => ⟨fun ⟨i, j, p, q, h1, h2, h3, _, h5⟩ => ⟨i, j, p, q, h1, h2, h3, h5⟩, fun ⟨i, j, p, q, h1, h2, h3, h5⟩ => ⟨i, j, p, q, h1, h2, h3, (List.getElem?_eq_some_iff.1 h2).1, h5⟩⟩

theorem rep_bnd {l : List (Int × Int)} (hi : Incr l) : Rep (bndF l) (listC l) := by
  have key : ∀ k, k ≤ l.length → Rep (bndTo l k) (fun c => ∃ (i j : Nat) (p q : Int × Int), l[i]? = some p ∧ l[j]? = some q ∧ i < j ∧ i < k ∧ pairC p q c) := by
    intro k
    induction k with
    | zero => exact fun _ => rep_zero.congr fun c => ⟨fun h => h.elim, fun ⟨i, j, p, q, _, _, _, h, _⟩ => by omega⟩
    | succ k ih =>
      intro hk
      have hp := getD_some (d := ((0 : Int), (0 : Int))) (by omega : k < l.length)
      refine ((ih (by omega)).row (l := l.drop (k + 1)) (p := l.getD k (0, 0)) ?_).congr fun c => ?_
      · intro a ha
        obtain ⟨j, hj⟩ := List.getElem?_of_mem ha
        rw [List.getElem?_drop] at hj
        exact hi.ne hp hj (by omega)
      · constructor
        · rintro (⟨a, ha, e⟩ | ⟨i, j, p, q, h1, h2, h3, h4, h5⟩)
          · obtain ⟨j, hj⟩ := List.getElem?_of_mem ha
            rw [List.getElem?_drop] at hj
            exact ⟨k, k + 1 + j, _, a, hp, hj, by omega, by omega, pairC_comm.1 e⟩
          · exact ⟨i, j, p, q, h1, h2, h3, by omega, h5⟩
        · rintro ⟨i, j, p, q, h1, h2, h3, h4, h5⟩
          rcases Nat.lt_or_ge i k with g | g
          · exact .inr ⟨i, j, p, q, h1, h2, h3, g, h5⟩
          · obtain rfl : i = k := by omega
            rw [hp] at h1
            obtain rfl := Option.some.inj h1
            refine .inl ⟨q, List.mem_of_getElem? (i := j - (i + 1)) ?_, pairC_comm.1 h5⟩
            rw [List.getElem?_drop]
            have : i + 1 + (j - (i + 1)) = j := by omega
            rw [this]; exact h2
  refine (key _ (Nat.le_refl _)).congr fun c => ⟨fun ⟨i, j, p, q, h1, h2, h3, _, h5⟩ => ⟨i, j, p, q, h1, h2, h3, h5⟩, fun ⟨i, j, p, q, h1, h2, h3, h5⟩ => ⟨i, j, p, q, h1, h2, h3, (List.getElem?_eq_some_iff.1 h1).1, h5⟩⟩

/-- v is a possible value at x. -/
def PossV (l : List (Int × Int)) (x v : Int) : Prop := Cons (fun c => (∃ a ∈ l, pairC a (x, v) c) ∨ listC l c)

theorem poss_all {l : List (Int × Int)} (hi : Incr l) {x v : Int} (hx : ∀ a ∈ l, a.1 ≠ x) : possF (withF (allF l) l (x, v)) = true ↔ PossV l x v := ((rep_all hi).with hx).poss
theorem poss_bnd {l : List (Int × Int)} (hi : Incr l) {x v : Int} (hx : ∀ a ∈ l, a.1 ≠ x) : possF (withF (bndF l) l (x, v)) = true ↔ PossV l x v := ((rep_bnd hi).with hx).poss

end Go.Proofs.YtnfgedbcfclnmaaGreat
