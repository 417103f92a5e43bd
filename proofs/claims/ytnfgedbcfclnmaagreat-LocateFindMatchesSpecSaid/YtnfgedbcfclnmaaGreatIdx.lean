/- The first full column: slices.IndexFunc at the columns, with the closure Columns$1. -/
import Derived.Test.YtnfgedbcfclnmaaGreatLeaf
import Derived.Test.YtnfgedbcfclnmaaGreatTight
set_option linter.unusedVariables false
set_option linter.unusedSimpArgs false
namespace Go.Proofs.YtnfgedbcfclnmaaGreat
open Go.RowKit

/-- The columns lie in a block. -/
def ColsAt (w : World) (g : Nat) (rs : List (Int × Int × Int × Int)) : Prop :=
  ∀ i r, rs[i]? = some r → w.cell? ⟨g, i * 4, none⟩ = some (.int .i64 (scanOf r).1) ∧ w.cell? ⟨g, i * 4 + 1, none⟩ = some (.int .i64 (scanOf r).2.1) ∧ w.cell? ⟨g, i * 4 + 2, none⟩ = some (.int .i64 (scanOf r).2.2.1) ∧ w.cell? ⟨g, i * 4 + 3, none⟩ = some (.int .i64 (scanOf r).2.2.2)
theorem ColsAt.keep {B : Nat} {w w1 : World} {g : Nat} {rs : List (Int × Int × Int × Int)} (h : ColsAt w g rs) (hb : Below B w w1) (hg : g < B) : ColsAt w1 g rs := fun i r hr => by
  obtain ⟨a, b, c, d⟩ := h i r hr
  exact ⟨_root_.Go.Proofs.YtnfgedbcfclnmaaGreat.keep hb a hg, _root_.Go.Proofs.YtnfgedbcfclnmaaGreat.keep hb b hg, _root_.Go.Proofs.YtnfgedbcfclnmaaGreat.keep hb c hg, _root_.Go.Proofs.YtnfgedbcfclnmaaGreat.keep hb d hg⟩

set_option maxHeartbeats 800000 in
theorem isFull_any (r : Int × Int × Int × Int) (s R : Int) (ps pr : Nat) (w : World) (hr : StB r) (hs : 0 ≤ s ∧ s ≤ 6) (hR : 0 ≤ R ∧ R ≤ 85) (h1 : Blk w ps #[.int .i64 s] 3) (h2 : Blk w pr #[.int .i64 R] 3) :
    Calls Tryz.prog 37 #[.agg #[.int .i64 (scanOf r).1, .int .i64 (scanOf r).2.1, .int .i64 (scanOf r).2.2.1, .int .i64 (scanOf r).2.2.2], .pointer (some ⟨ps, 0, none⟩), .pointer (some ⟨pr, 0, none⟩)] w fun e w' => e = .returned (.bool (fullB r s R)) ∧ Below w.heap.size w w' := by
  obtain ⟨a0, af, alt⟩ := h1.d1
  obtain ⟨b0, bf, blt⟩ := h2.d1
  go_enter Tryz.func37, Tryz.ntmps37
  go_wp2_with (go_at_call 36; refine (pfull_any r s R _ hr hs hR).mono ?_; rintro e w' ⟨rfl, hb⟩)
  go_ret
  exact ⟨rfl, binto (below_alloc _ _) hb⟩

set_option maxHeartbeats 800000 in
theorem indexCol_any (rs : List (Int × Int × Int × Int)) (s R : Int) (g n ps pr k : Nat) (w : World) (hall : ∀ r ∈ rs, StB r) (hs : 0 ≤ s ∧ s ≤ 6) (hR : 0 ≤ R ∧ R ≤ 85) (hc : ColsAt w g rs) (hg : g < w.heap.size) (hn : rs.length = n) (hn2 : n ≤ 640)
    (h1 : Blk w ps #[.int .i64 s] 3) (h2 : Blk w pr #[.int .i64 R] 3) (hk : k < n) (hyes : fullB (rs.getD k (0, 0, 0, 0)) s R = true) (hno : ∀ j, j < k → fullB (rs.getD j (0, 0, 0, 0)) s R = false) :
    Calls Tryz.prog 39 #[.slice (some ⟨g, 0, none⟩) n n, .func (.func 37) #[] #[.pointer (some ⟨ps, 0, none⟩), .pointer (some ⟨pr, 0, none⟩)]] w fun e w' => e = .returned (.int .i64 k) ∧ Below w.heap.size w w' := by
  go_enter Tryz.func39, Tryz.ntmps39
  go_wp2_with fail
  go_loopw [5, 8] (fun _ n wr => ∃ j : Nat, n = .int .i64 j ∧ j ≤ k ∧ Below w.heap.size w wr) (fun _ n _ => k - (intOf n).toNat)
  case atStart => exact ⟨0, rfl, by omega, Below.refl _ _⟩
  case round =>
    obtain ⟨j, rfl, hj, hB⟩ := hrel
    obtain ⟨wa, rfl⟩ : ∃ wo : World, wo = wr := ⟨_, rfl⟩
    obtain ⟨r, hr⟩ : ∃ r, r = rs.getD j (0, 0, 0, 0) := ⟨_, rfl⟩
    have hrj : rs[j]? = some r := by rw [hr]; exact getD_some (by omega)
    obtain ⟨c0, c1, c2, c3⟩ := hc.keep hB hg j r hrj
    have hrB : StB r := hall r (List.mem_of_getElem? hrj)
    have hjn : decide ((j : Int) < (n : Int)) = true := by simp; omega
    have HS := h1.keep hB h1.lt
    have HR' := h2.keep hB h2.lt
    have HRB := Lib.hid hrB
    clear hrB hrj
    by_cases hjk : j < k
    · have hf : fullB r s R = false := by rw [hr]; exact hno j hjk
      have HF := isFull_any r s R ps pr wa HRB.out hs hR HS HR'
      rw [hf] at HF
      have HF := Lib.hid HF
      clear hf hr
      go_wp2_with (go_at_call 37; refine HF.out.mono ?_; rintro e w' ⟨rfl, hb⟩)
      go_roundw
      case rel => exact ⟨j + 1, by go_num, by omega, binto hB hb⟩
      case measure => simp [intOf]; omega
    · obtain rfl : j = k := by omega
      have hf : fullB r s R = true := by rw [hr]; exact hyes
      have HF := isFull_any r s R ps pr wa HRB.out hs hR HS HR'
      rw [hf] at HF
      have HF := Lib.hid HF
      clear hf hr
      go_wp2_with (go_at_call 37; refine HF.out.mono ?_; rintro e w' ⟨rfl, hb⟩)
      go_ret
      exact ⟨rfl, binto hB hb⟩

end Go.Proofs.YtnfgedbcfclnmaaGreat
