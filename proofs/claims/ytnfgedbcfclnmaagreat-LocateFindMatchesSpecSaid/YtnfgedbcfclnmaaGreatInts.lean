/- ref5.Ints: two lists of numbers are equal. -/
import Derived.Test.YtnfgedbcfclnmaaGreatTight
set_option linter.unusedVariables false
set_option linter.unusedSimpArgs false
namespace Go.Proofs.YtnfgedbcfclnmaaGreat
open Go.RowKit

theorem ints_ne_at {l m : List Int} {k : Nat} (hk : k < l.length) (h : l.getD k 0 ≠ m.getD k 0) : l ≠ m := fun e => h (by rw [e])
theorem ints_eq {l m : List Int} (hl : l.length = m.length) (h : ∀ k, k < l.length → l.getD k 0 = m.getD k 0) : l = m := by
  apply List.ext_getElem hl
  intro i h1 h2
  have := h i h1
  simpa [List.getD, h1, h2] using this

set_option maxHeartbeats 1000000 in
theorem ints_any (u v : Value) (l m : List Int) (w : World) (hu : Reads (Value.int .i64) w u l) (hv : Reads (Value.int .i64) w v m) :
    Calls Tryz.prog 19 #[u, v] w fun e w' => e = .returned (.bool (decide (l = m))) ∧ Below w.heap.size w w' := by
  by_cases hl : l.length = m.length
  · obtain ⟨ua, cu, rfl, hu1, hu2, hu3⟩ := hu
    obtain ⟨va, cv, rfl, hv1, hv2, hv3⟩ := hv
    have hmax : maxLen = 140737488355327 ∨ maxLen ≤ 9223372036854775807 := .inr (by decide)
    have hlB : ((l.length : Int) != (m.length : Int)) = false := by simp; omega
    have HL := Lib.hid hl
    clear hl
    go_enter Tryz.func19, Tryz.ntmps19
    go_wp2_with fail
    go_loopw [5] (fun n wr => ∃ k : Nat, n = .int .i64 k ∧ k ≤ l.length ∧ (∀ j, j < k → l.getD j 0 = m.getD j 0) ∧ Below w.heap.size w wr) (fun n _ => l.length - (intOf n).toNat)
    case atStart => exact ⟨0, rfl, by omega, fun j hj => by omega, Below.refl _ _⟩
    case round =>
      obtain ⟨k, rfl, hk, hj, hB⟩ := hrel
      obtain ⟨wa, rfl⟩ : ∃ wo : World, wo = wr := ⟨_, rfl⟩
      by_cases hlt : k < l.length
      · obtain ⟨bu, ou, rfl, hub, huc⟩ : ∃ b off, ua = some ⟨b, off, none⟩ ∧ b < w.heap.size ∧ ∀ i x, l[i]? = some x → w.cell? ⟨b, off + i, none⟩ = some (.int .i64 x) := by
          rcases hu3 with g | g
          · subst g; simp at hlt
          · exact g
        obtain ⟨bv, ov, rfl, hvb, hvc⟩ : ∃ b off, va = some ⟨b, off, none⟩ ∧ b < w.heap.size ∧ ∀ i x, m[i]? = some x → w.cell? ⟨b, off + i, none⟩ = some (.int .i64 x) := by
          rcases hv3 with g | g
          · have h9 : m.length = 0 := by simp [g]
            have := HL.out; omega
          · exact g
        have c1 := keep hB (huc k _ (getD_some (d := 0) hlt)) hub
        have c2 := keep hB (hvc k _ (getD_some (d := 0) (by have := HL.out; omega))) hvb
        have i1 : decide ((k : Int) < (l.length : Int)) = true := by simp; omega
        have i2 : (k : Int) < (m.length : Int) := by have := HL.out; omega
        obtain ⟨x, hx⟩ : ∃ x, x = l.getD k 0 := ⟨_, rfl⟩
        obtain ⟨y, hy⟩ : ∃ y, y = m.getD k 0 := ⟨_, rfl⟩
        rw [← hx] at c1
        rw [← hy] at c2
        have HX := Lib.hid hx
        have HY := Lib.hid hy
        by_cases he : x = y
        · have hb : (x != y) = false := by simpa using he
          have hj' : ∀ j, j < k + 1 → l.getD j 0 = m.getD j 0 := fun j hj2 => by
            rcases Nat.lt_or_eq_of_le (Nat.le_of_lt_succ hj2) with g | rfl
            · exact hj j g
            · rw [← hx, ← hy]; exact he
          have HJ := Lib.hid hj'
          clear he hj hj' hx hy
          go_wp2_with fail
          go_quiet (fail)
          go_wp2_with fail
          exact ⟨⟨k + 1, by go_num, by omega, HJ.out, below_drewN hB _⟩, by simp [intOf]; omega⟩
        · have hb : (x != y) = true := by simpa using he
          have hne : decide (l = m) = false := by simpa using ints_ne_at hlt (by rw [← hx, ← hy]; exact he)
          have HN := Lib.hid hne
          clear he hj hne hx hy
          go_wp2_with fail
          go_quiet (fail)
          go_wp2_with fail
          go_ret
          rw [HN.out]
          exact ⟨rfl, below_drewN hB _⟩
      · obtain rfl : k = l.length := by omega
        have he : decide (l = m) = true := by simpa using ints_eq HL.out hj
        have HN := Lib.hid he
        clear hj he
        go_wp2_with fail
        go_ret
        rw [HN.out]
        exact ⟨rfl, hB⟩
  · have hne : decide (l = m) = false := by
      rw [decide_eq_false_iff_not]; intro e; exact hl (by rw [e])
    have hlB : ((l.length : Int) != (m.length : Int)) = true := by simp; omega
    have HN := Lib.hid hne
    obtain ⟨a, c, rfl, -⟩ := hu
    obtain ⟨a', c', rfl, -⟩ := hv
    clear hl hne
    go_enter Tryz.func19, Tryz.ntmps19
    go_wp2_with fail
    go_ret
    rw [HN.out]
    exact ⟨rfl, Below.refl _ _⟩

end Go.Proofs.YtnfgedbcfclnmaaGreat
