/- What a cell of a page is for. -/
import Derived.Test.YtnfgedbcfclnmaaGreatLeaf
set_option linter.unusedVariables false
set_option linter.unusedSimpArgs false
namespace Go.Proofs.YtnfgedbcfclnmaaGreat
open Go.RowKit

def bit (b : Bool) : Int := if b then 1 else 0

set_option maxHeartbeats 1000000 in
theorem fixed_any (k : Int) (b : Bool) (w : World) : Calls Tryz.prog 96 #[.int .i64 k, .bool b] w fun e w' => e = .returned (.agg #[.int .i64 k, .int .i64 (bit b)]) ∧ Below w.heap.size w w' := by
  cases b with
  | true =>
    go_enter Tryz.func96, Tryz.ntmps96
    go_wp2_with fail
    exact bodyPost_ret (v := .agg #[.int .i64 k, .int .i64 1]) (by simp [results, Tryz.results96, go_sem]) rfl ⟨rfl, (by repeat (first | (with_reducible exact Below.refl _ _) | (with_reducible assumption) | ((with_reducible refine Below.setCell ?_ ?_ _); rotate_left; (focus (first | omega | (simp; done) | (simp; omega)))) | (with_reducible refine Below.drew ?_) | (with_reducible refine below_drewN ?_ _) | ((with_reducible refine Below.alloc ?_ ?_ _); rotate_left; (focus (first | omega | (simp; done) | (simp; omega))))))⟩
  | false =>
    go_enter Tryz.func96, Tryz.ntmps96
    go_wp2_with fail
    exact bodyPost_ret (v := .agg #[.int .i64 k, .int .i64 0]) (by simp [results, Tryz.results96, go_sem]) rfl ⟨rfl, (by repeat (first | (with_reducible exact Below.refl _ _) | (with_reducible assumption) | ((with_reducible refine Below.setCell ?_ ?_ _); rotate_left; (focus (first | omega | (simp; done) | (simp; omega)))) | (with_reducible refine Below.drew ?_) | (with_reducible refine below_drewN ?_ _) | ((with_reducible refine Below.alloc ?_ ?_ _); rotate_left; (focus (first | omega | (simp; done) | (simp; omega))))))⟩

def rowsN (L : Nat) : Nat := if L = 2 then 85 else 53
/-- The purpose of an inner cell. -/
def innerF (L r c : Nat) : Int × Int :=
  if r < 5 then (4, r * 48 + c) else if r = 5 then (3, (c % L : Nat)) else if rowsN L - 15 ≤ r then (4, 240 + (r - (rowsN L - 15) : Nat) * 48 + c)
  else (5, 8 * (((r - 6) / (8 / L) : Nat) * 24 + (c / 2 : Nat)) + (L / 2 : Nat) * (((r - 6) % (8 / L) : Nat) * 2 + (c % 2 : Nat)))

set_option maxRecDepth 100000 in
set_option maxHeartbeats 2000000 in
theorem inner_any (L r c : Nat) (w : World) (hL : L = 2 ∨ L = 4) (hr : r ≤ 100) (hc : c ≤ 100) :
    Calls Tryz.prog 97 #[.int .i64 L, .int .i64 r, .int .i64 c] w fun e w' => e = .returned (.agg #[.int .i64 (innerF L r c).1, .int .i64 (innerF L r c).2]) ∧ Below w.heap.size w w' := by
  obtain ⟨z, hz⟩ : ∃ z, z = innerF L r c := ⟨_, rfl⟩
  rw [← hz]
  obtain ⟨q1, q2⟩ := z
  dsimp only
  obtain ⟨a, ha⟩ : ∃ a, a = c % 2 := ⟨_, rfl⟩
  obtain ⟨b, hb⟩ : ∃ b, b = c / 2 := ⟨_, rfl⟩
  have fa : Int.tmod (c : Int) 2 = (a : Int) := by rw [ha]; rfl
  have fb : Int.tdiv (c : Int) 2 = (b : Int) := by rw [hb]; rfl
  have ea : IntKind.i64.wrap (a : Int) = a := IntWalk.i64_in _ (by omega)
  have eb : IntKind.i64.wrap (b : Int) = b := IntWalk.i64_in _ (by omega)
  rcases hL with rfl | rfl
  · by_cases h5 : r < 5
    · have hd : decide ((r : Int) < 5) = true := by simp; omega
      obtain ⟨rfl, rfl⟩ : q1 = 4 ∧ q2 = (r : Int) * 48 + c := by simp only [innerF, if_pos h5, Prod.mk.injEq] at hz; exact hz
      clear hz ha hb
      go_enter Tryz.func97, Tryz.ntmps97
      go_wp2_with (go_at_call 78; refine (prows2 _).mono ?_; rintro e w' ⟨rfl, rfl⟩)
      exact bodyPost_ret (v := .agg #[.int .i64 4, .int .i64 ((r : Int) * 48 + c)]) (by simp [results, Tryz.results97, go_sem]) rfl ⟨rfl, (by repeat (first | (with_reducible exact Below.refl _ _) | (with_reducible assumption) | ((with_reducible refine Below.setCell ?_ ?_ _); rotate_left; (focus (first | omega | (simp; done) | (simp; omega)))) | (with_reducible refine Below.drew ?_) | (with_reducible refine below_drewN ?_ _) | ((with_reducible refine Below.alloc ?_ ?_ _); rotate_left; (focus (first | omega | (simp; done) | (simp; omega))))))⟩
    · have hd : decide ((r : Int) < 5) = false := by simp; omega
      by_cases h6 : r = 5
      · obtain ⟨x, hx⟩ : ∃ x, x = c % 2 := ⟨_, rfl⟩
        have fx : Int.tmod (c : Int) 2 = (x : Int) := by rw [hx]; rfl
        have ex : IntKind.i64.wrap (x : Int) = x := IntWalk.i64_in _ (by omega)
        obtain ⟨rfl, rfl⟩ : q1 = 3 ∧ q2 = (x : Int) := by simp only [innerF, if_neg h5, if_pos h6, Prod.mk.injEq] at hz; rw [hx]; exact hz
        obtain rfl : a = x := by omega
        subst h6
        clear hx
        clear hz ha hb
        go_enter Tryz.func97, Tryz.ntmps97
        go_wp2_with (go_at_call 78; refine (prows2 _).mono ?_; rintro e w' ⟨rfl, rfl⟩)
        exact bodyPost_ret (v := .agg #[.int .i64 3, .int .i64 (a)]) (by simp [results, Tryz.results97, go_sem]) rfl ⟨rfl, (by repeat (first | (with_reducible exact Below.refl _ _) | (with_reducible assumption) | ((with_reducible refine Below.setCell ?_ ?_ _); rotate_left; (focus (first | omega | (simp; done) | (simp; omega)))) | (with_reducible refine Below.drew ?_) | (with_reducible refine below_drewN ?_ _) | ((with_reducible refine Below.alloc ?_ ?_ _); rotate_left; (focus (first | omega | (simp; done) | (simp; omega))))))⟩
      · have hd6 : ((r : Int) == 5) = false := by simp; omega
        by_cases h7 : 70 ≤ r
        · have hd7 : decide ((70 : Int) ≤ (r : Int)) = true := by simp; omega
          obtain ⟨rfl, rfl⟩ : q1 = 4 ∧ q2 = 240 + ((r : Int) - 70) * 48 + c := by simp only [innerF, if_neg h5, if_neg h6, if_pos (show rowsN 2 - 15 ≤ r from h7), Prod.mk.injEq] at hz; obtain ⟨z1, z2⟩ := hz; refine ⟨z1, ?_⟩; rw [z2, show rowsN 2 - 15 = 70 from rfl]; omega
          clear hz ha hb
          go_enter Tryz.func97, Tryz.ntmps97
          go_wp2_with (go_at_call 78; refine (prows2 _).mono ?_; rintro e w' ⟨rfl, rfl⟩)
          exact bodyPost_ret (v := .agg #[.int .i64 4, .int .i64 (240 + ((r : Int) - 70) * 48 + c)]) (by simp [results, Tryz.results97, go_sem]) rfl ⟨rfl, (by repeat (first | (with_reducible exact Below.refl _ _) | (with_reducible assumption) | ((with_reducible refine Below.setCell ?_ ?_ _); rotate_left; (focus (first | omega | (simp; done) | (simp; omega)))) | (with_reducible refine Below.drew ?_) | (with_reducible refine below_drewN ?_ _) | ((with_reducible refine Below.alloc ?_ ?_ _); rotate_left; (focus (first | omega | (simp; done) | (simp; omega))))))⟩
        · have hd7 : decide ((70 : Int) ≤ (r : Int)) = false := by simp; omega
          obtain ⟨u, hu⟩ : ∃ u, u = r - 6 := ⟨_, rfl⟩
          obtain ⟨p, hp⟩ : ∃ p, p = u / 4 := ⟨_, rfl⟩
          obtain ⟨m, hm⟩ : ∃ m, m = u % 4 := ⟨_, rfl⟩
          have fu : IntKind.i64.wrap ((r : Int) - 6) = (u : Int) := by rw [IntWalk.i64_in _ (by omega)]; omega
          have fp : Int.tdiv (u : Int) 4 = (p : Int) := by rw [hp]; rfl
          have fm : Int.tmod (u : Int) 4 = (m : Int) := by rw [hm]; rfl
          have ep : IntKind.i64.wrap (p : Int) = p := IntWalk.i64_in _ (by omega)
          have em : IntKind.i64.wrap (m : Int) = m := IntWalk.i64_in _ (by omega)
          have hu100 : u ≤ 100 := by omega
          have hp100 : p ≤ 100 := by omega
          have hm4 : m < 4 := by omega
          have ha2 : a < 2 := by omega
          have hb2 : b ≤ 100 := by omega
          obtain ⟨rfl, rfl⟩ : q1 = 5 ∧ q2 = 8 * ((p : Int) * 24 + (b : Int)) + 1 * ((m : Int) * 2 + (a : Int)) := by simp only [innerF, if_neg h5, if_neg h6, if_neg (show ¬ (rowsN 2 - 15 ≤ r) from h7), Prod.mk.injEq] at hz; rw [hp, hm, ha, hb, hu]; exact hz
          clear hu hp hm
          clear hz ha hb
          go_enter Tryz.func97, Tryz.ntmps97
          go_wp2_with (go_at_call 78; refine (prows2 _).mono ?_; rintro e w' ⟨rfl, rfl⟩)
          exact bodyPost_ret (v := .agg #[.int .i64 5, .int .i64 (8 * ((p : Int) * 24 + (b : Int)) + ((m : Int) * 2 + (a : Int)))]) (by simp [results, Tryz.results97, go_sem]) rfl ⟨by rw [Int.one_mul], (by repeat (first | (with_reducible exact Below.refl _ _) | (with_reducible assumption) | ((with_reducible refine Below.setCell ?_ ?_ _); rotate_left; (focus (first | omega | (simp; done) | (simp; omega)))) | (with_reducible refine Below.drew ?_) | (with_reducible refine below_drewN ?_ _) | ((with_reducible refine Below.alloc ?_ ?_ _); rotate_left; (focus (first | omega | (simp; done) | (simp; omega))))))⟩
  · by_cases h5 : r < 5
    · have hd : decide ((r : Int) < 5) = true := by simp; omega
      obtain ⟨rfl, rfl⟩ : q1 = 4 ∧ q2 = (r : Int) * 48 + c := by simp only [innerF, if_pos h5, Prod.mk.injEq] at hz; exact hz
      clear hz ha hb
      go_enter Tryz.func97, Tryz.ntmps97
      go_wp2_with (go_at_call 78; refine (prows4 _).mono ?_; rintro e w' ⟨rfl, rfl⟩)
      exact bodyPost_ret (v := .agg #[.int .i64 4, .int .i64 ((r : Int) * 48 + c)]) (by simp [results, Tryz.results97, go_sem]) rfl ⟨rfl, (by repeat (first | (with_reducible exact Below.refl _ _) | (with_reducible assumption) | ((with_reducible refine Below.setCell ?_ ?_ _); rotate_left; (focus (first | omega | (simp; done) | (simp; omega)))) | (with_reducible refine Below.drew ?_) | (with_reducible refine below_drewN ?_ _) | ((with_reducible refine Below.alloc ?_ ?_ _); rotate_left; (focus (first | omega | (simp; done) | (simp; omega))))))⟩
    · have hd : decide ((r : Int) < 5) = false := by simp; omega
      by_cases h6 : r = 5
      · obtain ⟨x, hx⟩ : ∃ x, x = c % 4 := ⟨_, rfl⟩
        have fx : Int.tmod (c : Int) 4 = (x : Int) := by rw [hx]; rfl
        have ex : IntKind.i64.wrap (x : Int) = x := IntWalk.i64_in _ (by omega)
        obtain ⟨rfl, rfl⟩ : q1 = 3 ∧ q2 = (x : Int) := by simp only [innerF, if_neg h5, if_pos h6, Prod.mk.injEq] at hz; rw [hx]; exact hz
        subst h6
        clear hx
        clear hz ha hb
        go_enter Tryz.func97, Tryz.ntmps97
        go_wp2_with (go_at_call 78; refine (prows4 _).mono ?_; rintro e w' ⟨rfl, rfl⟩)
        exact bodyPost_ret (v := .agg #[.int .i64 3, .int .i64 (x)]) (by simp [results, Tryz.results97, go_sem]) rfl ⟨rfl, (by repeat (first | (with_reducible exact Below.refl _ _) | (with_reducible assumption) | ((with_reducible refine Below.setCell ?_ ?_ _); rotate_left; (focus (first | omega | (simp; done) | (simp; omega)))) | (with_reducible refine Below.drew ?_) | (with_reducible refine below_drewN ?_ _) | ((with_reducible refine Below.alloc ?_ ?_ _); rotate_left; (focus (first | omega | (simp; done) | (simp; omega))))))⟩
      · have hd6 : ((r : Int) == 5) = false := by simp; omega
        by_cases h7 : 38 ≤ r
        · have hd7 : decide ((38 : Int) ≤ (r : Int)) = true := by simp; omega
          obtain ⟨rfl, rfl⟩ : q1 = 4 ∧ q2 = 240 + ((r : Int) - 38) * 48 + c := by simp only [innerF, if_neg h5, if_neg h6, if_pos (show rowsN 4 - 15 ≤ r from h7), Prod.mk.injEq] at hz; obtain ⟨z1, z2⟩ := hz; refine ⟨z1, ?_⟩; rw [z2, show rowsN 4 - 15 = 38 from rfl]; omega
          clear hz ha hb
          go_enter Tryz.func97, Tryz.ntmps97
          go_wp2_with (go_at_call 78; refine (prows4 _).mono ?_; rintro e w' ⟨rfl, rfl⟩)
          exact bodyPost_ret (v := .agg #[.int .i64 4, .int .i64 (240 + ((r : Int) - 38) * 48 + c)]) (by simp [results, Tryz.results97, go_sem]) rfl ⟨rfl, (by repeat (first | (with_reducible exact Below.refl _ _) | (with_reducible assumption) | ((with_reducible refine Below.setCell ?_ ?_ _); rotate_left; (focus (first | omega | (simp; done) | (simp; omega)))) | (with_reducible refine Below.drew ?_) | (with_reducible refine below_drewN ?_ _) | ((with_reducible refine Below.alloc ?_ ?_ _); rotate_left; (focus (first | omega | (simp; done) | (simp; omega))))))⟩
        · have hd7 : decide ((38 : Int) ≤ (r : Int)) = false := by simp; omega
          obtain ⟨u, hu⟩ : ∃ u, u = r - 6 := ⟨_, rfl⟩
          obtain ⟨p, hp⟩ : ∃ p, p = u / 2 := ⟨_, rfl⟩
          obtain ⟨m, hm⟩ : ∃ m, m = u % 2 := ⟨_, rfl⟩
          have fu : IntKind.i64.wrap ((r : Int) - 6) = (u : Int) := by rw [IntWalk.i64_in _ (by omega)]; omega
          have fp : Int.tdiv (u : Int) 2 = (p : Int) := by rw [hp]; rfl
          have fm : Int.tmod (u : Int) 2 = (m : Int) := by rw [hm]; rfl
          have ep : IntKind.i64.wrap (p : Int) = p := IntWalk.i64_in _ (by omega)
          have em : IntKind.i64.wrap (m : Int) = m := IntWalk.i64_in _ (by omega)
          have hu100 : u ≤ 100 := by omega
          have hp100 : p ≤ 100 := by omega
          have hm4 : m < 2 := by omega
          have ha2 : a < 2 := by omega
          have hb2 : b ≤ 100 := by omega
          obtain ⟨rfl, rfl⟩ : q1 = 5 ∧ q2 = 8 * ((p : Int) * 24 + (b : Int)) + 2 * ((m : Int) * 2 + (a : Int)) := by simp only [innerF, if_neg h5, if_neg h6, if_neg (show ¬ (rowsN 4 - 15 ≤ r) from h7), Prod.mk.injEq] at hz; rw [hp, hm, ha, hb, hu]; exact hz
          clear hu hp hm
          clear hz ha hb
          go_enter Tryz.func97, Tryz.ntmps97
          go_wp2_with (go_at_call 78; refine (prows4 _).mono ?_; rintro e w' ⟨rfl, rfl⟩)
          exact bodyPost_ret (v := .agg #[.int .i64 5, .int .i64 (8 * ((p : Int) * 24 + (b : Int)) + 2 * ((m : Int) * 2 + (a : Int)))]) (by simp [results, Tryz.results97, go_sem]) rfl ⟨rfl, (by repeat (first | (with_reducible exact Below.refl _ _) | (with_reducible assumption) | ((with_reducible refine Below.setCell ?_ ?_ _); rotate_left; (focus (first | omega | (simp; done) | (simp; omega)))) | (with_reducible refine Below.drew ?_) | (with_reducible refine below_drewN ?_ _) | ((with_reducible refine Below.alloc ?_ ?_ _); rotate_left; (focus (first | omega | (simp; done) | (simp; omega))))))⟩

/-- The purpose of a cell. -/
def cellF (L r c : Nat) : Int × Int :=
  let d := min (min (min r (rowsN L - 1 - r)) c) (57 - c)
  if d < 3 then (1, 1) else if d < 4 then (1, 0) else if 4 < d then innerF L (r - 5) (c - 5)
  else if r = 4 then (2, bit (decide ((c - 4) % 2 = 0))) else if r = rowsN L - 1 - 4 then (2, bit (decide ((c - 4) % 4 < 2)))
  else if c = 4 then (2, bit (decide ((r - 5) % 2 = 0))) else (2, bit (decide ((r - 5) % 4 < 2)))

theorem run_min4 {P : Program} {w : World} (ts : Array TypeId) (t : TypeId) (x y z u : Int) :
    (Builtin.min_ ts t #[.int .i64 x, .int .i64 y, .int .i64 z, .int .i64 u]).run P w = .ok (.int .i64 (min (min (min x y) z) u)) w := by
  have e : ∀ a b : Int, (if b < a then b else a) = min a b := fun a b => by omega
  simp [Builtin.min_, Builtin.min2, e]

set_option maxRecDepth 100000 in
set_option maxHeartbeats 4000000 in
theorem cell_any (L r c : Nat) (w : World) (hL : L = 2 ∨ L = 4) (hr : r < rowsN L) (hc : c < 58) :
    Calls Tryz.prog 79 #[.int .i64 L, .int .i64 r, .int .i64 c] w fun e w' => e = .returned (.agg #[.int .i64 (cellF L r c).1, .int .i64 (cellF L r c).2]) ∧ Below w.heap.size w w' := by
  obtain ⟨z, hz⟩ : ∃ z, z = cellF L r c := ⟨_, rfl⟩
  rw [← hz]
  obtain ⟨q1, q2⟩ := z
  dsimp only
  simp only [cellF] at hz
  obtain ⟨d, hd⟩ : ∃ d, d = min (min (min r (rowsN L - 1 - r)) c) (57 - c) := ⟨_, rfl⟩
  rw [← hd] at hz
  rcases hL with rfl | rfl
  · replace hr : r < 85 := hr
    have hm : rowsN 2 - 1 = 84 := rfl
    rw [hm] at hd hz
    clear hm
    have hmin : ∀ (ts : Array TypeId) (t : TypeId) (W : World), (Builtin.min_ ts t #[.int .i64 (r : Int), .int .i64 (84 - (r : Int)), .int .i64 (c : Int), .int .i64 (57 - (c : Int))]).run Tryz.prog W = .ok (.int .i64 (d : Int)) W := fun ts t W => by
      rw [run_min4, show min (min (min (r : Int) (84 - (r : Int))) (c : Int)) (57 - (c : Int)) = (d : Int) by omega]
    by_cases h3 : d < 3
    · have d3 : decide ((d : Int) < 3) = true := by simp; omega
      obtain ⟨rfl, rfl⟩ : q1 = 1 ∧ q2 = bit true := by rw [if_pos h3, Prod.mk.injEq] at hz; exact hz
      clear hz hd
      go_enter Tryz.func79, Tryz.ntmps79
      go_wp2_with (go_at_call 78; refine (prows2 _).mono ?_; rintro e w' ⟨rfl, rfl⟩)
      refine (fixed_any 1 true _).mono ?_
      rintro e w1 ⟨rfl, hb⟩
      have R1 := (Blk.new w #[.int .i64 0, .int .i64 0] 84).keep hb (by simp)
      obtain ⟨r0, r1, rf, rlt⟩ := R1.d2
      have hb := binto (below_alloc w _) hb
      dsimp only
      go_wp2_with fail
      exact bodyPost_ret (v := .agg #[.int .i64 (1), .int .i64 (bit true)]) (by simp [results, Tryz.results79, go_sem, r0, r1, rf, rlt]) rfl ⟨rfl, (by repeat (first | (with_reducible exact Below.refl _ _) | (with_reducible assumption) | ((with_reducible refine Below.setCell ?_ ?_ _); rotate_left; (focus (first | omega | (simp; done) | (simp; omega)))) | (with_reducible refine Below.drew ?_) | (with_reducible refine below_drewN ?_ _) | ((with_reducible refine Below.alloc ?_ ?_ _); rotate_left; (focus (first | omega | (simp; done) | (simp; omega))))))⟩
    · have d3 : decide ((d : Int) < 3) = false := by simp; omega
      rw [if_neg h3] at hz
      by_cases h4 : d < 4
      · have d4 : decide ((d : Int) < 4) = true := by simp; omega
        obtain ⟨rfl, rfl⟩ : q1 = 1 ∧ q2 = bit false := by rw [if_pos h4, Prod.mk.injEq] at hz; exact hz
        clear hz hd
        go_enter Tryz.func79, Tryz.ntmps79
        go_wp2_with (go_at_call 78; refine (prows2 _).mono ?_; rintro e w' ⟨rfl, rfl⟩)
        refine (fixed_any 1 false _).mono ?_
        rintro e w1 ⟨rfl, hb⟩
        have R1 := (Blk.new w #[.int .i64 0, .int .i64 0] 84).keep hb (by simp)
        obtain ⟨r0, r1, rf, rlt⟩ := R1.d2
        have hb := binto (below_alloc w _) hb
        dsimp only
        go_wp2_with fail
        exact bodyPost_ret (v := .agg #[.int .i64 (1), .int .i64 (bit false)]) (by simp [results, Tryz.results79, go_sem, r0, r1, rf, rlt]) rfl ⟨rfl, (by repeat (first | (with_reducible exact Below.refl _ _) | (with_reducible assumption) | ((with_reducible refine Below.setCell ?_ ?_ _); rotate_left; (focus (first | omega | (simp; done) | (simp; omega)))) | (with_reducible refine Below.drew ?_) | (with_reducible refine below_drewN ?_ _) | ((with_reducible refine Below.alloc ?_ ?_ _); rotate_left; (focus (first | omega | (simp; done) | (simp; omega))))))⟩
      · have d4 : decide ((d : Int) < 4) = false := by simp; omega
        rw [if_neg h4] at hz
        by_cases h5 : 4 < d
        · have d5 : decide (4 < (d : Int)) = true := by simp; omega
          rw [if_pos h5] at hz
          obtain ⟨u, hu⟩ : ∃ u, u = r - 5 := ⟨_, rfl⟩
          obtain ⟨v, hv⟩ : ∃ v, v = c - 5 := ⟨_, rfl⟩
          have eu : IntKind.i64.wrap ((r : Int) - 5) = (u : Int) := by rw [IntWalk.i64_in _ (by omega)]; omega
          have ev : IntKind.i64.wrap ((c : Int) - 5) = (v : Int) := by rw [IntWalk.i64_in _ (by omega)]; omega
          obtain ⟨rfl, rfl⟩ : q1 = (innerF 2 u v).1 ∧ q2 = (innerF 2 u v).2 := by rw [hu, hv, ← hz]; exact ⟨rfl, rfl⟩
          have hu1 : u ≤ 100 := by omega
          have hv1 : v ≤ 100 := by omega
          clear hz hd hu hv
          go_enter Tryz.func79, Tryz.ntmps79
          go_wp2_with (go_at_call 78; refine (prows2 _).mono ?_; rintro e w' ⟨rfl, rfl⟩)
          refine (inner_any 2 u v _ (by simp) hu1 hv1).mono ?_
          rintro e w1 ⟨rfl, hb⟩
          have R1 := (Blk.new w #[.int .i64 0, .int .i64 0] 84).keep hb (by simp)
          obtain ⟨r0, r1, rf, rlt⟩ := R1.d2
          have hb := binto (below_alloc w _) hb
          dsimp only
          go_wp2_with fail
          exact bodyPost_ret (v := .agg #[.int .i64 ((innerF 2 u v).1), .int .i64 ((innerF 2 u v).2)]) (by simp [results, Tryz.results79, go_sem, r0, r1, rf, rlt]) rfl ⟨rfl, (by repeat (first | (with_reducible exact Below.refl _ _) | (with_reducible assumption) | ((with_reducible refine Below.setCell ?_ ?_ _); rotate_left; (focus (first | omega | (simp; done) | (simp; omega)))) | (with_reducible refine Below.drew ?_) | (with_reducible refine below_drewN ?_ _) | ((with_reducible refine Below.alloc ?_ ?_ _); rotate_left; (focus (first | omega | (simp; done) | (simp; omega))))))⟩
        · have d5 : decide (4 < (d : Int)) = false := by simp; omega
          rw [if_neg h5] at hz
          have hd4 : d = 4 := by omega
          by_cases e4 : r = 4
          · rw [if_pos e4] at hz
            clear hmin
            obtain ⟨x, hx⟩ : ∃ x, x = (c - 4) % 2 := ⟨_, rfl⟩
            have fx : Int.tmod ((c : Int) - 4) 2 = (x : Int) := by rw [hx, show ((c : Int) - 4) = ((c - 4 : Nat) : Int) by omega]; rfl
            have ex : IntKind.i64.wrap (x : Int) = x := IntWalk.i64_in _ (by omega)
            obtain ⟨rfl, rfl⟩ : q1 = 2 ∧ q2 = bit ((x : Int) == 0) := by
              rw [Prod.mk.injEq] at hz
              refine ⟨hz.1, hz.2.trans (congrArg bit ?_)⟩
              rw [← hx, Bool.eq_iff_iff]; simp <;> omega
            have hx4 : x < 4 := by omega
            clear hz hx h3 d3 h4 d4 h5 d5
            subst e4 hd4
            have hmin : ∀ (ts : Array TypeId) (t : TypeId) (W : World), (Builtin.min_ ts t #[.int .i64 4, .int .i64 80, .int .i64 (c : Int), .int .i64 (57 - (c : Int))]).run Tryz.prog W = .ok (.int .i64 4) W := fun ts t W => by
              rw [run_min4]; congr 2; omega
            clear hd
            go_enter Tryz.func79, Tryz.ntmps79
            go_wp2_with (go_at_call 78; refine (prows2 _).mono ?_; rintro e w' ⟨rfl, rfl⟩)
            refine (fixed_any 2 ((x : Int) == 0) _).mono ?_
            rintro e w1 ⟨rfl, hb⟩
            have R1 := (Blk.new w #[.int .i64 0, .int .i64 0] 84).keep hb (by simp)
            obtain ⟨r0, r1, rf, rlt⟩ := R1.d2
            have hb := binto (below_alloc w _) hb
            dsimp only
            go_wp2_with fail
            exact bodyPost_ret (v := .agg #[.int .i64 (2), .int .i64 (bit ((x : Int) == 0))]) (by simp [results, Tryz.results79, go_sem, r0, r1, rf, rlt]) rfl ⟨rfl, (by repeat (first | (with_reducible exact Below.refl _ _) | (with_reducible assumption) | ((with_reducible refine Below.setCell ?_ ?_ _); rotate_left; (focus (first | omega | (simp; done) | (simp; omega)))) | (with_reducible refine Below.drew ?_) | (with_reducible refine below_drewN ?_ _) | ((with_reducible refine Below.alloc ?_ ?_ _); rotate_left; (focus (first | omega | (simp; done) | (simp; omega))))))⟩
          · rw [if_neg e4] at hz
            have g4 : ((r : Int) == 4) = false := by simp; omega
            by_cases e5 : r = 84 - 4
            · rw [if_pos e5] at hz
              clear hmin g4
              obtain ⟨x, hx⟩ : ∃ x, x = (c - 4) % 4 := ⟨_, rfl⟩
              have fx : Int.tmod ((c : Int) - 4) 4 = (x : Int) := by rw [hx, show ((c : Int) - 4) = ((c - 4 : Nat) : Int) by omega]; rfl
              have ex : IntKind.i64.wrap (x : Int) = x := IntWalk.i64_in _ (by omega)
              obtain ⟨rfl, rfl⟩ : q1 = 2 ∧ q2 = bit (decide ((x : Int) < 2)) := by
                rw [Prod.mk.injEq] at hz
                refine ⟨hz.1, hz.2.trans (congrArg bit ?_)⟩
                rw [← hx, Bool.eq_iff_iff]; simp <;> omega
              have hx4 : x < 4 := by omega
              clear hz hx h3 d3 h4 d4 h5 d5 e4
              subst e5 hd4
              have hmin : ∀ (ts : Array TypeId) (t : TypeId) (W : World), (Builtin.min_ ts t #[.int .i64 80, .int .i64 4, .int .i64 (c : Int), .int .i64 (57 - (c : Int))]).run Tryz.prog W = .ok (.int .i64 4) W := fun ts t W => by
                rw [run_min4]; congr 2; omega
              clear hd
              go_enter Tryz.func79, Tryz.ntmps79
              go_wp2_with (go_at_call 78; refine (prows2 _).mono ?_; rintro e w' ⟨rfl, rfl⟩)
              refine (fixed_any 2 (decide ((x : Int) < 2)) _).mono ?_
              rintro e w1 ⟨rfl, hb⟩
              have R1 := (Blk.new w #[.int .i64 0, .int .i64 0] 84).keep hb (by simp)
              obtain ⟨r0, r1, rf, rlt⟩ := R1.d2
              have hb := binto (below_alloc w _) hb
              dsimp only
              go_wp2_with fail
              exact bodyPost_ret (v := .agg #[.int .i64 (2), .int .i64 (bit (decide ((x : Int) < 2)))]) (by simp [results, Tryz.results79, go_sem, r0, r1, rf, rlt]) rfl ⟨rfl, (by repeat (first | (with_reducible exact Below.refl _ _) | (with_reducible assumption) | ((with_reducible refine Below.setCell ?_ ?_ _); rotate_left; (focus (first | omega | (simp; done) | (simp; omega)))) | (with_reducible refine Below.drew ?_) | (with_reducible refine below_drewN ?_ _) | ((with_reducible refine Below.alloc ?_ ?_ _); rotate_left; (focus (first | omega | (simp; done) | (simp; omega))))))⟩
            · rw [if_neg e5] at hz
              have g5 : ((r : Int) == 80) = false := by simp; omega
              by_cases e6 : c = 4
              · rw [if_pos e6] at hz
                clear hmin
                obtain ⟨x, hx⟩ : ∃ x, x = (r - 5) % 2 := ⟨_, rfl⟩
                have fx : Int.tmod ((r : Int) - 5) 2 = (x : Int) := by rw [hx, show ((r : Int) - 5) = ((r - 5 : Nat) : Int) by omega]; rfl
                have ex : IntKind.i64.wrap (x : Int) = x := IntWalk.i64_in _ (by omega)
                obtain ⟨rfl, rfl⟩ : q1 = 2 ∧ q2 = bit ((x : Int) == 0) := by
                  rw [Prod.mk.injEq] at hz
                  refine ⟨hz.1, hz.2.trans (congrArg bit ?_)⟩
                  rw [← hx, Bool.eq_iff_iff]; simp <;> omega
                have hx4 : x < 4 := by omega
                clear hz hx h3 d3 h4 d4 h5 d5 e4 e5
                subst e6 hd4
                have hmin : ∀ (ts : Array TypeId) (t : TypeId) (W : World), (Builtin.min_ ts t #[.int .i64 (r : Int), .int .i64 (84 - (r : Int)), .int .i64 4, .int .i64 53]).run Tryz.prog W = .ok (.int .i64 4) W := fun ts t W => by
                  rw [run_min4]; congr 2; omega
                clear hd
                go_enter Tryz.func79, Tryz.ntmps79
                go_wp2_with (go_at_call 78; refine (prows2 _).mono ?_; rintro e w' ⟨rfl, rfl⟩)
                refine (fixed_any 2 ((x : Int) == 0) _).mono ?_
                rintro e w1 ⟨rfl, hb⟩
                have R1 := (Blk.new w #[.int .i64 0, .int .i64 0] 84).keep hb (by simp)
                obtain ⟨r0, r1, rf, rlt⟩ := R1.d2
                have hb := binto (below_alloc w _) hb
                dsimp only
                go_wp2_with fail
                exact bodyPost_ret (v := .agg #[.int .i64 (2), .int .i64 (bit ((x : Int) == 0))]) (by simp [results, Tryz.results79, go_sem, r0, r1, rf, rlt]) rfl ⟨rfl, (by repeat (first | (with_reducible exact Below.refl _ _) | (with_reducible assumption) | ((with_reducible refine Below.setCell ?_ ?_ _); rotate_left; (focus (first | omega | (simp; done) | (simp; omega)))) | (with_reducible refine Below.drew ?_) | (with_reducible refine below_drewN ?_ _) | ((with_reducible refine Below.alloc ?_ ?_ _); rotate_left; (focus (first | omega | (simp; done) | (simp; omega))))))⟩
              · rw [if_neg e6] at hz
                have g6 : ((c : Int) == 4) = false := by simp; omega
                obtain ⟨x, hx⟩ : ∃ x, x = (r - 5) % 4 := ⟨_, rfl⟩
                have fx : Int.tmod ((r : Int) - 5) 4 = (x : Int) := by rw [hx, show ((r : Int) - 5) = ((r - 5 : Nat) : Int) by omega]; rfl
                have ex : IntKind.i64.wrap (x : Int) = x := IntWalk.i64_in _ (by omega)
                obtain ⟨rfl, rfl⟩ : q1 = 2 ∧ q2 = bit (decide ((x : Int) < 2)) := by
                  rw [Prod.mk.injEq] at hz
                  refine ⟨hz.1, hz.2.trans (congrArg bit ?_)⟩
                  rw [← hx, Bool.eq_iff_iff]; simp <;> omega
                have hx4 : x < 4 := by omega
                clear hz hx h3 d3 h4 d4 h5 d5 e4 e5 e6
                subst hd4
                clear hd
                go_enter Tryz.func79, Tryz.ntmps79
                go_wp2_with (go_at_call 78; refine (prows2 _).mono ?_; rintro e w' ⟨rfl, rfl⟩)
                refine (fixed_any 2 (decide ((x : Int) < 2)) _).mono ?_
                rintro e w1 ⟨rfl, hb⟩
                have R1 := (Blk.new w #[.int .i64 0, .int .i64 0] 84).keep hb (by simp)
                obtain ⟨r0, r1, rf, rlt⟩ := R1.d2
                have hb := binto (below_alloc w _) hb
                dsimp only
                go_wp2_with fail
                exact bodyPost_ret (v := .agg #[.int .i64 (2), .int .i64 (bit (decide ((x : Int) < 2)))]) (by simp [results, Tryz.results79, go_sem, r0, r1, rf, rlt]) rfl ⟨rfl, (by repeat (first | (with_reducible exact Below.refl _ _) | (with_reducible assumption) | ((with_reducible refine Below.setCell ?_ ?_ _); rotate_left; (focus (first | omega | (simp; done) | (simp; omega)))) | (with_reducible refine Below.drew ?_) | (with_reducible refine below_drewN ?_ _) | ((with_reducible refine Below.alloc ?_ ?_ _); rotate_left; (focus (first | omega | (simp; done) | (simp; omega))))))⟩
  · replace hr : r < 53 := hr
    have hm : rowsN 4 - 1 = 52 := rfl
    rw [hm] at hd hz
    clear hm
    have hmin : ∀ (ts : Array TypeId) (t : TypeId) (W : World), (Builtin.min_ ts t #[.int .i64 (r : Int), .int .i64 (52 - (r : Int)), .int .i64 (c : Int), .int .i64 (57 - (c : Int))]).run Tryz.prog W = .ok (.int .i64 (d : Int)) W := fun ts t W => by
      rw [run_min4, show min (min (min (r : Int) (52 - (r : Int))) (c : Int)) (57 - (c : Int)) = (d : Int) by omega]
    by_cases h3 : d < 3
    · have d3 : decide ((d : Int) < 3) = true := by simp; omega
      obtain ⟨rfl, rfl⟩ : q1 = 1 ∧ q2 = bit true := by rw [if_pos h3, Prod.mk.injEq] at hz; exact hz
      clear hz hd
      go_enter Tryz.func79, Tryz.ntmps79
      go_wp2_with (go_at_call 78; refine (prows4 _).mono ?_; rintro e w' ⟨rfl, rfl⟩)
      refine (fixed_any 1 true _).mono ?_
      rintro e w1 ⟨rfl, hb⟩
      have R1 := (Blk.new w #[.int .i64 0, .int .i64 0] 84).keep hb (by simp)
      obtain ⟨r0, r1, rf, rlt⟩ := R1.d2
      have hb := binto (below_alloc w _) hb
      dsimp only
      go_wp2_with fail
      exact bodyPost_ret (v := .agg #[.int .i64 (1), .int .i64 (bit true)]) (by simp [results, Tryz.results79, go_sem, r0, r1, rf, rlt]) rfl ⟨rfl, (by repeat (first | (with_reducible exact Below.refl _ _) | (with_reducible assumption) | ((with_reducible refine Below.setCell ?_ ?_ _); rotate_left; (focus (first | omega | (simp; done) | (simp; omega)))) | (with_reducible refine Below.drew ?_) | (with_reducible refine below_drewN ?_ _) | ((with_reducible refine Below.alloc ?_ ?_ _); rotate_left; (focus (first | omega | (simp; done) | (simp; omega))))))⟩
    · have d3 : decide ((d : Int) < 3) = false := by simp; omega
      rw [if_neg h3] at hz
      by_cases h4 : d < 4
      · have d4 : decide ((d : Int) < 4) = true := by simp; omega
        obtain ⟨rfl, rfl⟩ : q1 = 1 ∧ q2 = bit false := by rw [if_pos h4, Prod.mk.injEq] at hz; exact hz
        clear hz hd
        go_enter Tryz.func79, Tryz.ntmps79
        go_wp2_with (go_at_call 78; refine (prows4 _).mono ?_; rintro e w' ⟨rfl, rfl⟩)
        refine (fixed_any 1 false _).mono ?_
        rintro e w1 ⟨rfl, hb⟩
        have R1 := (Blk.new w #[.int .i64 0, .int .i64 0] 84).keep hb (by simp)
        obtain ⟨r0, r1, rf, rlt⟩ := R1.d2
        have hb := binto (below_alloc w _) hb
        dsimp only
        go_wp2_with fail
        exact bodyPost_ret (v := .agg #[.int .i64 (1), .int .i64 (bit false)]) (by simp [results, Tryz.results79, go_sem, r0, r1, rf, rlt]) rfl ⟨rfl, (by repeat (first | (with_reducible exact Below.refl _ _) | (with_reducible assumption) | ((with_reducible refine Below.setCell ?_ ?_ _); rotate_left; (focus (first | omega | (simp; done) | (simp; omega)))) | (with_reducible refine Below.drew ?_) | (with_reducible refine below_drewN ?_ _) | ((with_reducible refine Below.alloc ?_ ?_ _); rotate_left; (focus (first | omega | (simp; done) | (simp; omega))))))⟩
      · have d4 : decide ((d : Int) < 4) = false := by simp; omega
        rw [if_neg h4] at hz
        by_cases h5 : 4 < d
        · have d5 : decide (4 < (d : Int)) = true := by simp; omega
          rw [if_pos h5] at hz
          obtain ⟨u, hu⟩ : ∃ u, u = r - 5 := ⟨_, rfl⟩
          obtain ⟨v, hv⟩ : ∃ v, v = c - 5 := ⟨_, rfl⟩
          have eu : IntKind.i64.wrap ((r : Int) - 5) = (u : Int) := by rw [IntWalk.i64_in _ (by omega)]; omega
          have ev : IntKind.i64.wrap ((c : Int) - 5) = (v : Int) := by rw [IntWalk.i64_in _ (by omega)]; omega
          obtain ⟨rfl, rfl⟩ : q1 = (innerF 4 u v).1 ∧ q2 = (innerF 4 u v).2 := by rw [hu, hv, ← hz]; exact ⟨rfl, rfl⟩
          have hu1 : u ≤ 100 := by omega
          have hv1 : v ≤ 100 := by omega
          clear hz hd hu hv
          go_enter Tryz.func79, Tryz.ntmps79
          go_wp2_with (go_at_call 78; refine (prows4 _).mono ?_; rintro e w' ⟨rfl, rfl⟩)
          refine (inner_any 4 u v _ (by simp) hu1 hv1).mono ?_
          rintro e w1 ⟨rfl, hb⟩
          have R1 := (Blk.new w #[.int .i64 0, .int .i64 0] 84).keep hb (by simp)
          obtain ⟨r0, r1, rf, rlt⟩ := R1.d2
          have hb := binto (below_alloc w _) hb
          dsimp only
          go_wp2_with fail
          exact bodyPost_ret (v := .agg #[.int .i64 ((innerF 4 u v).1), .int .i64 ((innerF 4 u v).2)]) (by simp [results, Tryz.results79, go_sem, r0, r1, rf, rlt]) rfl ⟨rfl, (by repeat (first | (with_reducible exact Below.refl _ _) | (with_reducible assumption) | ((with_reducible refine Below.setCell ?_ ?_ _); rotate_left; (focus (first | omega | (simp; done) | (simp; omega)))) | (with_reducible refine Below.drew ?_) | (with_reducible refine below_drewN ?_ _) | ((with_reducible refine Below.alloc ?_ ?_ _); rotate_left; (focus (first | omega | (simp; done) | (simp; omega))))))⟩
        · have d5 : decide (4 < (d : Int)) = false := by simp; omega
          rw [if_neg h5] at hz
          have hd4 : d = 4 := by omega
          by_cases e4 : r = 4
          · rw [if_pos e4] at hz
            clear hmin
            obtain ⟨x, hx⟩ : ∃ x, x = (c - 4) % 2 := ⟨_, rfl⟩
            have fx : Int.tmod ((c : Int) - 4) 2 = (x : Int) := by rw [hx, show ((c : Int) - 4) = ((c - 4 : Nat) : Int) by omega]; rfl
            have ex : IntKind.i64.wrap (x : Int) = x := IntWalk.i64_in _ (by omega)
            obtain ⟨rfl, rfl⟩ : q1 = 2 ∧ q2 = bit ((x : Int) == 0) := by
              rw [Prod.mk.injEq] at hz
              refine ⟨hz.1, hz.2.trans (congrArg bit ?_)⟩
              rw [← hx, Bool.eq_iff_iff]; simp <;> omega
            have hx4 : x < 4 := by omega
            clear hz hx h3 d3 h4 d4 h5 d5
            subst e4 hd4
            have hmin : ∀ (ts : Array TypeId) (t : TypeId) (W : World), (Builtin.min_ ts t #[.int .i64 4, .int .i64 48, .int .i64 (c : Int), .int .i64 (57 - (c : Int))]).run Tryz.prog W = .ok (.int .i64 4) W := fun ts t W => by
              rw [run_min4]; congr 2; omega
            clear hd
            go_enter Tryz.func79, Tryz.ntmps79
            go_wp2_with (go_at_call 78; refine (prows4 _).mono ?_; rintro e w' ⟨rfl, rfl⟩)
            refine (fixed_any 2 ((x : Int) == 0) _).mono ?_
            rintro e w1 ⟨rfl, hb⟩
            have R1 := (Blk.new w #[.int .i64 0, .int .i64 0] 84).keep hb (by simp)
            obtain ⟨r0, r1, rf, rlt⟩ := R1.d2
            have hb := binto (below_alloc w _) hb
            dsimp only
            go_wp2_with fail
            exact bodyPost_ret (v := .agg #[.int .i64 (2), .int .i64 (bit ((x : Int) == 0))]) (by simp [results, Tryz.results79, go_sem, r0, r1, rf, rlt]) rfl ⟨rfl, (by repeat (first | (with_reducible exact Below.refl _ _) | (with_reducible assumption) | ((with_reducible refine Below.setCell ?_ ?_ _); rotate_left; (focus (first | omega | (simp; done) | (simp; omega)))) | (with_reducible refine Below.drew ?_) | (with_reducible refine below_drewN ?_ _) | ((with_reducible refine Below.alloc ?_ ?_ _); rotate_left; (focus (first | omega | (simp; done) | (simp; omega))))))⟩
          · rw [if_neg e4] at hz
            have g4 : ((r : Int) == 4) = false := by simp; omega
            by_cases e5 : r = 52 - 4
            · rw [if_pos e5] at hz
              clear hmin g4
              obtain ⟨x, hx⟩ : ∃ x, x = (c - 4) % 4 := ⟨_, rfl⟩
              have fx : Int.tmod ((c : Int) - 4) 4 = (x : Int) := by rw [hx, show ((c : Int) - 4) = ((c - 4 : Nat) : Int) by omega]; rfl
              have ex : IntKind.i64.wrap (x : Int) = x := IntWalk.i64_in _ (by omega)
              obtain ⟨rfl, rfl⟩ : q1 = 2 ∧ q2 = bit (decide ((x : Int) < 2)) := by
                rw [Prod.mk.injEq] at hz
                refine ⟨hz.1, hz.2.trans (congrArg bit ?_)⟩
                rw [← hx, Bool.eq_iff_iff]; simp <;> omega
              have hx4 : x < 4 := by omega
              clear hz hx h3 d3 h4 d4 h5 d5 e4
              subst e5 hd4
              have hmin : ∀ (ts : Array TypeId) (t : TypeId) (W : World), (Builtin.min_ ts t #[.int .i64 48, .int .i64 4, .int .i64 (c : Int), .int .i64 (57 - (c : Int))]).run Tryz.prog W = .ok (.int .i64 4) W := fun ts t W => by
                rw [run_min4]; congr 2; omega
              clear hd
              go_enter Tryz.func79, Tryz.ntmps79
              go_wp2_with (go_at_call 78; refine (prows4 _).mono ?_; rintro e w' ⟨rfl, rfl⟩)
              refine (fixed_any 2 (decide ((x : Int) < 2)) _).mono ?_
              rintro e w1 ⟨rfl, hb⟩
              have R1 := (Blk.new w #[.int .i64 0, .int .i64 0] 84).keep hb (by simp)
              obtain ⟨r0, r1, rf, rlt⟩ := R1.d2
              have hb := binto (below_alloc w _) hb
              dsimp only
              go_wp2_with fail
              exact bodyPost_ret (v := .agg #[.int .i64 (2), .int .i64 (bit (decide ((x : Int) < 2)))]) (by simp [results, Tryz.results79, go_sem, r0, r1, rf, rlt]) rfl ⟨rfl, (by repeat (first | (with_reducible exact Below.refl _ _) | (with_reducible assumption) | ((with_reducible refine Below.setCell ?_ ?_ _); rotate_left; (focus (first | omega | (simp; done) | (simp; omega)))) | (with_reducible refine Below.drew ?_) | (with_reducible refine below_drewN ?_ _) | ((with_reducible refine Below.alloc ?_ ?_ _); rotate_left; (focus (first | omega | (simp; done) | (simp; omega))))))⟩
            · rw [if_neg e5] at hz
              have g5 : ((r : Int) == 48) = false := by simp; omega
              by_cases e6 : c = 4
              · rw [if_pos e6] at hz
                clear hmin
                obtain ⟨x, hx⟩ : ∃ x, x = (r - 5) % 2 := ⟨_, rfl⟩
                have fx : Int.tmod ((r : Int) - 5) 2 = (x : Int) := by rw [hx, show ((r : Int) - 5) = ((r - 5 : Nat) : Int) by omega]; rfl
                have ex : IntKind.i64.wrap (x : Int) = x := IntWalk.i64_in _ (by omega)
                obtain ⟨rfl, rfl⟩ : q1 = 2 ∧ q2 = bit ((x : Int) == 0) := by
                  rw [Prod.mk.injEq] at hz
                  refine ⟨hz.1, hz.2.trans (congrArg bit ?_)⟩
                  rw [← hx, Bool.eq_iff_iff]; simp <;> omega
                have hx4 : x < 4 := by omega
                clear hz hx h3 d3 h4 d4 h5 d5 e4 e5
                subst e6 hd4
                have hmin : ∀ (ts : Array TypeId) (t : TypeId) (W : World), (Builtin.min_ ts t #[.int .i64 (r : Int), .int .i64 (52 - (r : Int)), .int .i64 4, .int .i64 53]).run Tryz.prog W = .ok (.int .i64 4) W := fun ts t W => by
                  rw [run_min4]; congr 2; omega
                clear hd
                go_enter Tryz.func79, Tryz.ntmps79
                go_wp2_with (go_at_call 78; refine (prows4 _).mono ?_; rintro e w' ⟨rfl, rfl⟩)
                refine (fixed_any 2 ((x : Int) == 0) _).mono ?_
                rintro e w1 ⟨rfl, hb⟩
                have R1 := (Blk.new w #[.int .i64 0, .int .i64 0] 84).keep hb (by simp)
                obtain ⟨r0, r1, rf, rlt⟩ := R1.d2
                have hb := binto (below_alloc w _) hb
                dsimp only
                go_wp2_with fail
                exact bodyPost_ret (v := .agg #[.int .i64 (2), .int .i64 (bit ((x : Int) == 0))]) (by simp [results, Tryz.results79, go_sem, r0, r1, rf, rlt]) rfl ⟨rfl, (by repeat (first | (with_reducible exact Below.refl _ _) | (with_reducible assumption) | ((with_reducible refine Below.setCell ?_ ?_ _); rotate_left; (focus (first | omega | (simp; done) | (simp; omega)))) | (with_reducible refine Below.drew ?_) | (with_reducible refine below_drewN ?_ _) | ((with_reducible refine Below.alloc ?_ ?_ _); rotate_left; (focus (first | omega | (simp; done) | (simp; omega))))))⟩
              · rw [if_neg e6] at hz
                have g6 : ((c : Int) == 4) = false := by simp; omega
                obtain ⟨x, hx⟩ : ∃ x, x = (r - 5) % 4 := ⟨_, rfl⟩
                have fx : Int.tmod ((r : Int) - 5) 4 = (x : Int) := by rw [hx, show ((r : Int) - 5) = ((r - 5 : Nat) : Int) by omega]; rfl
                have ex : IntKind.i64.wrap (x : Int) = x := IntWalk.i64_in _ (by omega)
                obtain ⟨rfl, rfl⟩ : q1 = 2 ∧ q2 = bit (decide ((x : Int) < 2)) := by
                  rw [Prod.mk.injEq] at hz
                  refine ⟨hz.1, hz.2.trans (congrArg bit ?_)⟩
                  rw [← hx, Bool.eq_iff_iff]; simp <;> omega
                have hx4 : x < 4 := by omega
                clear hz hx h3 d3 h4 d4 h5 d5 e4 e5 e6
                subst hd4
                clear hd
                go_enter Tryz.func79, Tryz.ntmps79
                go_wp2_with (go_at_call 78; refine (prows4 _).mono ?_; rintro e w' ⟨rfl, rfl⟩)
                refine (fixed_any 2 (decide ((x : Int) < 2)) _).mono ?_
                rintro e w1 ⟨rfl, hb⟩
                have R1 := (Blk.new w #[.int .i64 0, .int .i64 0] 84).keep hb (by simp)
                obtain ⟨r0, r1, rf, rlt⟩ := R1.d2
                have hb := binto (below_alloc w _) hb
                dsimp only
                go_wp2_with fail
                exact bodyPost_ret (v := .agg #[.int .i64 (2), .int .i64 (bit (decide ((x : Int) < 2)))]) (by simp [results, Tryz.results79, go_sem, r0, r1, rf, rlt]) rfl ⟨rfl, (by repeat (first | (with_reducible exact Below.refl _ _) | (with_reducible assumption) | ((with_reducible refine Below.setCell ?_ ?_ _); rotate_left; (focus (first | omega | (simp; done) | (simp; omega)))) | (with_reducible refine Below.drew ?_) | (with_reducible refine below_drewN ?_ _) | ((with_reducible refine Below.alloc ?_ ?_ _); rotate_left; (focus (first | omega | (simp; done) | (simp; omega))))))⟩

end Go.Proofs.YtnfgedbcfclnmaaGreat
