/- The tops that Columns finds are valid numbers. -/
import Derived.Test.YtnfgedbcfclnmaaGreatTopsF
import Derived.Test.YtnfgedbcfclnmaaGreatList
set_option linter.unusedVariables false
set_option linter.unusedSimpArgs false
namespace Go.Proofs.YtnfgedbcfclnmaaGreat
open Go.RowKit

theorem mem_ptsTo {vals : List Int} : ∀ {k i : Nat}, i < k → 0 ≤ vals.getD i 0 → ((i : Int), vals.getD i 0) ∈ ptsTo vals k
  | 0, _, h, _ => by omega
  | k + 1, i, h, h0 => by
    rcases Nat.lt_or_eq_of_le (Nat.le_of_lt_succ h) with g | rfl
    · have := mem_ptsTo g h0
      unfold ptsTo
      split
      · exact List.mem_append_left _ this
      · exact this
    · unfold ptsTo
      rw [if_pos h0]
      exact List.mem_append_right _ (by simp)

theorem fillAt_between {vals : List Int} {a b i : Nat} {M : Int} (hai : a < i) (hib : i < b) (hb : b < vals.length) (ha0 : 0 ≤ vals.getD a 0) (hb0 : 0 ≤ vals.getD b 0) (haM : vals.getD a 0 ≤ M) (hbM : vals.getD b 0 ≤ M) : fillAt (ptsTo vals vals.length) i ≤ M := by
  by_cases h : ∃ v, OnlyV (ptsTo vals vals.length) i v
  · obtain ⟨v, hv⟩ := h
    rw [fillAt_only hv]
    have hp := hv.2.2.2.1
    have hc := hp (v - vals.getD a 0, (i : Int) - a) (vals.getD b 0 - v, (b : Int) - i) (.inl ⟨_, mem_ptsTo (k := vals.length) (by omega) ha0, .inl ⟨by simp; omega, rfl⟩⟩) (.inl ⟨_, mem_ptsTo (k := vals.length) hb hb0, .inr ⟨by simp; omega, rfl⟩⟩)
    dsimp only at hc
    rcases Int.lt_or_le M v with g | g
    · exfalso
      have e1 := Int.mul_nonneg (show 0 ≤ v - vals.getD a 0 - 1 by omega) (show 0 ≤ (b : Int) - i by omega)
      have e2 := Int.mul_nonneg (show 0 ≤ -(vals.getD b 0 - v + 1) by omega) (show 0 ≤ (i : Int) - a by omega)
      rw [Int.neg_mul] at e2
      omega
    · exact g
  · rw [fillAt_none (fun v hv => h ⟨v, hv⟩)]
    omega

theorem fillV_ok {vals : List Int} {M : Int} (hM : 0 ≤ M) (hall : ∀ i, i < vals.length → vals.getD i 0 ≤ M) (h0 : 0 ≤ vals.getD 0 0) (hl : 0 ≤ vals.getD (vals.length - 1) 0) {i : Nat} (hi : i < vals.length) : -1 ≤ fillV vals i ∧ fillV vals i ≤ M := by
  unfold fillV
  split
  · rename_i h; exact ⟨by omega, hall i hi⟩
  · rename_i h
    refine ⟨fillAt_ge, ?_⟩
    have e1 : i ≠ 0 := fun e => h (e ▸ h0)
    have e2 : i ≠ vals.length - 1 := fun e => h (e ▸ hl)
    exact fillAt_between (a := 0) (b := vals.length - 1) (by omega) (by omega) (by omega) h0 hl (hall _ (by omega)) (hall _ (by omega))

theorem tv_bound2 {r : Int × Int × Int × Int} {s R : Int} (h : StB r) (hs : 3 ≤ s ∧ s ≤ 6) (hR : R = 53 ∨ R = 85) : -1 ≤ tvF r s R ∧ tvF r s R ≤ 640 := by
  obtain ⟨h1, h2, h3, h4, h5, h6, h7, h8⟩ := h
  have hm : 100 ≤ R * s := by rcases hR with rfl | rfl <;> omega
  simp only [tvF, topF]
  repeat' split
  all_goals omega

theorem cols_ok {rs : List (Int × Int × Int × Int)} {l : List Int} {s R : Int} (hB : ∀ r ∈ rs, StB r) (h : ColsIs rs (some (l, s, R))) : listOk l = true ∧ l.length = rs.length ∧ (3 ≤ s ∧ s ≤ 6) ∧ (R = 53 ∨ R = 85) := by
  obtain ⟨R', s', hb, h⟩ := h
  rcases h with ⟨-, h⟩ | ⟨hc, a, b, hf, hl, h⟩
  · cases h
  · injection h with h
    injection h with h1 h2
    injection h2 with h2 h3
    subst h1 h2 h3
    obtain ⟨hs, hR⟩ : (3 ≤ s ∧ s ≤ 6) ∧ (R = 53 ∨ R = 85) := by
      have := hb.1
      unfold Cand at this
      omega
    have hab : a ≤ b := by
      rcases Nat.lt_or_ge b a with g | g
      · have := hf.2.2 b g
        rw [hl.2.1] at this; cases this
      · exact g
    have hlen := topsF_len (s := s) (R := R) hab hl.1
    refine ⟨?_, hlen, hs, hR⟩
    have hml : (midF rs s R a b).length = b + 1 - a := midF_length hl.1
    have hmg : ∀ i, i < b + 1 - a → (midF rs s R a b).getD i 0 = tvF (rs.getD (a + i) (0, 0, 0, 0)) s R := fun i hi => by
      have : (midF rs s R a b)[i]? = some (tvF (rs.getD (a + i) (0, 0, 0, 0)) s R) := by
        simp only [midF, List.getElem?_map, List.getElem?_take_of_lt hi, List.getElem?_drop]
        rw [getD_some (d := (0, 0, 0, 0)) (by have := hl.1; omega)]; rfl
      rw [List.getD, this]; rfl
    have hfull : ∀ r, fullB r s R = true → 0 ≤ tvF r s R := fun r hr => by
      rw [tvF, if_pos hr]
      simp only [fullB, Bool.and_eq_true, decide_eq_true_eq] at hr
      exact hr.1.1.1
    have hall : ∀ i, i < (midF rs s R a b).length → (midF rs s R a b).getD i 0 ≤ 640 := fun i hi => by
      rw [hml] at hi
      rw [hmg i hi]
      exact (tv_bound2 (hB _ (List.mem_of_getElem? (getD_some (by have := hl.1; omega)))) hs hR).2
    have h0 : 0 ≤ (midF rs s R a b).getD 0 0 := by
      rw [hmg 0 (by omega)]; exact hfull _ hf.2.1
    have hl0 : 0 ≤ (midF rs s R a b).getD ((midF rs s R a b).length - 1) 0 := by
      rw [hml, hmg _ (by omega), show a + (b + 1 - a - 1) = b by omega]; exact hfull _ hl.2.1
    simp only [listOk, Bool.not_eq_true', List.any_eq_false]
    intro x hx
    obtain ⟨i, hi, rfl⟩ := List.getElem_of_mem hx
    have hg := topsF_get (s := s) (R := R) hab hl.1 (show i < rs.length by rw [← hlen]; exact hi)
    rw [List.getElem?_eq_getElem hi] at hg
    injection hg with hg
    rw [hg]
    split
    · rename_i hin
      have hlt : i - a < (midF rs s R a b).length := by omega
      have : (fillF (midF rs s R a b)).getD (i - a) 0 = fillV (midF rs s R a b) (i - a) := by
        simp [fillF, List.getD, hlt]
      rw [this]
      have := fillV_ok (by omega) hall h0 hl0 hlt
      simp only [badN, Bool.or_eq_true, decide_eq_true_eq]; omega
    · decide

end Go.Proofs.YtnfgedbcfclnmaaGreat
