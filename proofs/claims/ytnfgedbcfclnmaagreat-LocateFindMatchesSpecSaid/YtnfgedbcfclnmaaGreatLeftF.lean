/- Small functions of the search for the left edge. -/
import Derived.Test.YtnfgedbcfclnmaaGreatList
import Derived.Test.YtnfgedbcfclnmaaGreatStretch
import Derived.Test.YtnfgedbcfclnmaaGreatValid
set_option linter.unusedVariables false
set_option linter.unusedSimpArgs false
namespace Go.Proofs.YtnfgedbcfclnmaaGreat
open Go.RowKit

theorem badN_in (t : Int) : badN t = !inB t (-1) 640 := by
  simp only [badN, inB]
  by_cases h1 : t < -1 <;> by_cases h2 : 640 < t <;> simp [h1, h2] <;> omega


def leftsFaultF (W H : Int) (n : Nat) (l : List Int) (s R : Int) : Int × Int :=
  if (imageFaultF W H n).1 ≠ 0 then imageFaultF W H n else if (l.length : Int) ≠ W then (9, -2) else if listOk l = false then (4, -2) else if inB s 3 6 = false then (4, -3) else if rowsB R = false then (4, -4) else (0, 0)

/-- The pixel of row k of the page exists in a column. -/
def thereB (W H : Int) (l : List Int) (x k : Int) : Bool := inB x 0 (W - 1) && decide (0 ≤ l.getD x.toNat 0) && decide (l.getD x.toNat 0 + k < H)
/-- Its shade; 0 if it does not exist. -/
def shadeF (W H : Int) (px l : List Int) (x k : Int) : Int := if thereB W H l x k then px.getD ((l.getD x.toNat 0 + k) * W + x).toNat 0 else 0

theorem listOk_get {l : List Int} (h : listOk l = true) {i : Nat} (hi : i < l.length) : -1 ≤ l.getD i 0 ∧ l.getD i 0 ≤ 640 := by
  simp only [listOk, Bool.not_eq_true', List.any_eq_false] at h
  have := h _ (List.mem_of_getElem? (getD_some (d := 0) hi))
  simp only [badN, Bool.or_eq_true, decide_eq_true_eq, not_or] at this
  omega

set_option maxRecDepth 100000 in
set_option maxHeartbeats 1000000 in
theorem lpixel_any (W H : Int) (pv tv : Value) (px l : List Int) (k x : Int) (w : World) (h : ImgOk w W H pv px) (ht : Reads (Value.int .i64) w tv l) (hW : (l.length : Int) = W) (hok : listOk l = true) (hk : 0 ≤ k ∧ k ≤ 1000) (hx : -10000 ≤ x ∧ x ≤ 10000) :
    Calls Tryz.prog 47 #[.agg #[.int .i64 W, .int .i64 H, pv], tv, .int .i64 k, .int .i64 x] w fun e w' => e = .returned (.tuple #[.int .i64 (shadeF W H px l x k), .bool (thereB W H l x k)]) ∧ Below w.heap.size w w' := by
  have h1 := h.w1
  have h2 := h.w2
  have h3 := h.h1
  have h4 := h.h2
  by_cases hx0 : 0 ≤ x
  · by_cases hxW : x < W
    · obtain ⟨xn, rfl⟩ : ∃ n : Nat, x = n := ⟨x.toNat, by omega⟩
      have hlen : xn < l.length := by omega
      have hin : inB (xn : Int) 0 (W - 1) = true := by simp [inB]; omega
      obtain ⟨b, off, cap, rfl, hc1, hc2, hb, hc⟩ := ht.some (by omega)
      obtain ⟨hb1, hb2⟩ := listOk_get hok hlen
      obtain ⟨t, hte⟩ : ∃ t, t = l.getD xn 0 := ⟨_, rfl⟩
      have c0 := hc xn _ (getD_some (d := 0) hlen)
      have hsh : ∀ s, shadeF W H px l xn k = s ↔ (if thereB W H l xn k then px.getD ((t + k) * W + xn).toNat 0 else 0) = s := fun s => by rw [shadeF, hte]; rfl
      have hth : thereB W H l xn k = (decide (0 ≤ t) && decide (t + k < H)) := by simp [thereB, hin, hte]
      rw [← hte] at c0 hb1 hb2
      have hxl : (xn : Int) < (l.length : Int) := by omega
      clear hc hte hok hin
      by_cases ht0 : t = -1
      · have e2 : thereB W H l xn k = false := by rw [hth, ht0]; simp
        have e1 := (hsh 0).2 (by rw [e2]; rfl)
        rw [e1, e2]
        clear e1 e2 hsh hth
        subst ht0
        go_enter Tryz.func47, Tryz.ntmps47
        go_wp2
        go_ret2
        exact ⟨rfl, below_alloc _ _⟩
      · have htb : (t == -1) = false := by simpa using ht0
        have hq0 : 0 ≤ t := by omega
        clear ht0
        by_cases hH : t + k < H
        · have e2 : thereB W H l xn k = true := by rw [hth]; simp <;> omega
          have e1 := (hsh _).2 (by rw [e2, if_pos rfl])
          obtain ⟨i1, i2⟩ := idx_lt (W := W) (H := H) (x := (xn : Int)) (y := t + k) (by omega) hxW (by omega) hH
          rw [← h.len] at i2
          obtain ⟨pb, po, pc, rfl, hp1, hp2, hpb, hpc⟩ := h.rd.some (by omega)
          have hpx := hpc ((t + k) * W + xn).toNat _ (getD_some (d := 0) (by omega))
          have hq := h.by1 (px.getD ((t + k) * W + xn).toNat 0) (List.mem_of_getElem? (getD_some (by omega)))
          generalize px.getD ((t + k) * W + xn).toNat 0 = q at *
          have hmul : IntKind.i64.wrap ((t + k) * W) = (t + k) * W := IntWalk.i64_in _ (by
            have := Int.mul_nonneg (show (0 : Int) ≤ t + k by omega) (show 0 ≤ W by omega)
            have := h.len
            have hle : W * H ≤ 409600 := by
              have := Int.mul_le_mul h2 h4 (by omega) (by omega); omega
            omega)
          have hadd : IntKind.i64.wrap ((t + k) * W + (xn : Int)) = (t + k) * W + (xn : Int) := IntWalk.i64_in _ (by
            have := h.len
            have hle : W * H ≤ 409600 := by
              have := Int.mul_le_mul h2 h4 (by omega) (by omega); omega
            omega)
          rw [e1, e2]
          clear e1 e2 hsh hth hpc
          go_enter Tryz.func47, Tryz.ntmps47
          go_wp2
          go_ret2
          exact ⟨rfl, below_alloc _ _⟩
        · have e2 : thereB W H l xn k = false := by rw [hth]; simp <;> omega
          have e1 := (hsh 0).2 (by rw [e2]; rfl)
          rw [e1, e2]
          clear e1 e2 hsh hth
          go_enter Tryz.func47, Tryz.ntmps47
          go_wp2
          go_ret2
          exact ⟨rfl, below_alloc _ _⟩
    · have hin : inB x 0 (W - 1) = false := by simp [inB]; omega
      have e2 : thereB W H l x k = false := by rw [thereB, hin]; rfl
      have e1 : shadeF W H px l x k = 0 := by rw [shadeF, e2]; rfl
      rw [e1, e2]
      obtain ⟨a, cap, rfl, -⟩ := ht
      have hxl : (l.length : Int) ≤ x := by omega
      clear hin e1 e2
      go_enter Tryz.func47, Tryz.ntmps47
      go_wp2
      go_ret2
      exact ⟨rfl, below_alloc _ _⟩
  · have hin : inB x 0 (W - 1) = false := by simp [inB]; omega
    have e2 : thereB W H l x k = false := by rw [thereB, hin]; rfl
    have e1 : shadeF W H px l x k = 0 := by rw [shadeF, e2]; rfl
    rw [e1, e2]
    obtain ⟨a, cap, rfl, -⟩ := ht
    clear hin e1 e2
    go_enter Tryz.func47, Tryz.ntmps47
    go_wp2
    go_ret2
    exact ⟨rfl, below_alloc _ _⟩

end Go.Proofs.YtnfgedbcfclnmaaGreat
