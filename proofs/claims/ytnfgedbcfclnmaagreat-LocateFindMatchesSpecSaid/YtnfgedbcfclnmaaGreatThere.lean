/- The document's There: the pixel of row k of the page exists. -/
import Derived.Test.YtnfgedbcfclnmaaGreatLeftF
set_option linter.unusedVariables false
set_option linter.unusedSimpArgs false
namespace Go.Proofs.YtnfgedbcfclnmaaGreat
open Go.RowKit

theorem in_quiet {a b c : Int} {x : Bool} (h : inB a b c = x) (w : World) :
    Calls Tryz.prog 17 #[.int .i64 a, .int .i64 b, .int .i64 c] w fun e w' => e = .returned (.bool x) ∧ w' = w :=
  (in_is h w).mono fun _ _ h => ⟨h.1, h.2.symm⟩

set_option maxRecDepth 100000 in
set_option maxHeartbeats 1000000 in
theorem there_any (W H : Int) (pv tv : Value) (l : List Int) (x k : Int) (w : World) (ht : Reads (Value.int .i64) w tv l) (hW : (l.length : Int) = W) (hW2 : W ≤ 640) (hok : listOk l = true) (hk : 0 ≤ k ∧ k ≤ 1000) :
    Calls Tryz.prog 60 #[.agg #[.int .i64 W, .int .i64 H, pv], tv, .int .i64 x, .int .i64 k] w fun e w' => e = .returned (.bool (thereB W H l x k)) ∧ Below w.heap.size w w' := by
  subst hW
  cases hin : inB x 0 ((l.length : Int) - 1) with
  | false =>
    have e2 : thereB l.length H l x k = false := by rw [thereB, hin]; rfl
    rw [e2]
    obtain ⟨a, cap, rfl, -⟩ := ht
    have HIN := Lib.hid hin
    clear hin e2
    go_enter Tryz.func60, Tryz.ntmps60
    go_wp2_with fail
    go_quiet ((go_at_call 17; exact Calls.quiet_of_same (in_quiet HIN.out _)))
    go_wp2_with fail
    go_ret
    exact ⟨rfl, (by repeat (first | (with_reducible exact Below.refl _ _) | (with_reducible assumption) | ((with_reducible refine Below.setCell ?_ ?_ _); rotate_left; (focus (first | omega | (simp; done) | (simp; omega)))) | (with_reducible refine Below.drew ?_) | (with_reducible refine below_drewN ?_ _) | ((with_reducible refine Below.alloc ?_ ?_ _); rotate_left; (focus (first | omega | (simp; done) | (simp; omega))))))⟩
  | true =>
    have hin' := hin
    simp only [inB, Bool.and_eq_true, decide_eq_true_eq] at hin'
    obtain ⟨xn, rfl⟩ : ∃ n : Nat, x = n := ⟨x.toNat, by omega⟩
    have hlen : xn < l.length := by omega
    obtain ⟨b, off, cap, rfl, hc1, hc2, hb, hc⟩ := ht.some (by omega)
    obtain ⟨hb1, hb2⟩ := listOk_get hok hlen
    obtain ⟨t, hte⟩ : ∃ t, t = l.getD xn 0 := ⟨_, rfl⟩
    have c0 := hc xn _ (getD_some (d := 0) hlen)
    have hth : thereB l.length H l xn k = (decide (0 ≤ t) && decide (t + k < H)) := by rw [thereB, hin, hte]; simp
    rw [← hte] at c0 hb1 hb2
    have HIN := Lib.hid hin
    clear hc hte hok hin
    rw [hth]
    clear hth
    by_cases h0 : 0 ≤ t
    · have d0 : decide (0 ≤ t) = true := by simpa using h0
      rw [d0]
      by_cases h1 : t + k < H
      · have d1 : decide (t + k < H) = true := by simpa using h1
        rw [d1]
        go_enter Tryz.func60, Tryz.ntmps60
        go_wp2_with fail
        go_quiet ((go_at_call 17; exact Calls.quiet_of_same (in_quiet HIN.out _)))
        go_wp2_with fail
        go_ret
        exact ⟨rfl, (by repeat (first | (with_reducible exact Below.refl _ _) | (with_reducible assumption) | ((with_reducible refine Below.setCell ?_ ?_ _); rotate_left; (focus (first | omega | (simp; done) | (simp; omega)))) | (with_reducible refine Below.drew ?_) | (with_reducible refine below_drewN ?_ _) | ((with_reducible refine Below.alloc ?_ ?_ _); rotate_left; (focus (first | omega | (simp; done) | (simp; omega))))))⟩
      · have d1 : decide (t + k < H) = false := by simpa using h1
        rw [d1]
        go_enter Tryz.func60, Tryz.ntmps60
        go_wp2_with fail
        go_quiet ((go_at_call 17; exact Calls.quiet_of_same (in_quiet HIN.out _)))
        go_wp2_with fail
        go_ret
        exact ⟨rfl, (by repeat (first | (with_reducible exact Below.refl _ _) | (with_reducible assumption) | ((with_reducible refine Below.setCell ?_ ?_ _); rotate_left; (focus (first | omega | (simp; done) | (simp; omega)))) | (with_reducible refine Below.drew ?_) | (with_reducible refine below_drewN ?_ _) | ((with_reducible refine Below.alloc ?_ ?_ _); rotate_left; (focus (first | omega | (simp; done) | (simp; omega))))))⟩
    · have d0 : decide (0 ≤ t) = false := by simpa using h0
      rw [d0]
      go_enter Tryz.func60, Tryz.ntmps60
      go_wp2_with fail
      go_quiet ((go_at_call 17; exact Calls.quiet_of_same (in_quiet HIN.out _)))
      go_wp2_with fail
      go_ret
      exact ⟨rfl, (by repeat (first | (with_reducible exact Below.refl _ _) | (with_reducible assumption) | ((with_reducible refine Below.setCell ?_ ?_ _); rotate_left; (focus (first | omega | (simp; done) | (simp; omega)))) | (with_reducible refine Below.drew ?_) | (with_reducible refine below_drewN ?_ _) | ((with_reducible refine Below.alloc ?_ ?_ _); rotate_left; (focus (first | omega | (simp; done) | (simp; omega))))))⟩

end Go.Proofs.YtnfgedbcfclnmaaGreat
