/- Blocks of five and eight cells. -/
import Derived.Test.YtnfgedbcfclnmaaGreatTurnF
import Derived.Test.YtnfgedbcfclnmaaGreatLeftF
set_option linter.unusedVariables false
set_option linter.unusedSimpArgs false
namespace Go.Proofs.YtnfgedbcfclnmaaGreat
open Go.RowKit

theorem Blk.d8 {w : World} {b : Nat} {x0 x1 x2 x3 x4 x5 x6 x7 : Value} {t : TypeId} (h : Blk w b #[x0, x1, x2, x3, x4, x5, x6, x7] t) : w.cell? ⟨b, 0, none⟩ = some x0 ∧ w.cell? ⟨b, 1, none⟩ = some x1 ∧ w.cell? ⟨b, 2, none⟩ = some x2 ∧ w.cell? ⟨b, 3, none⟩ = some x3 ∧ w.cell? ⟨b, 4, none⟩ = some x4 ∧ w.cell? ⟨b, 5, none⟩ = some x5 ∧ w.cell? ⟨b, 6, none⟩ = some x6 ∧ w.cell? ⟨b, 7, none⟩ = some x7 ∧ (∀ o, w.frozen? ⟨b, o, none⟩ = false) ∧ b < w.heap.size :=
  ⟨h.cell rfl, h.cell rfl, h.cell rfl, h.cell rfl, h.cell rfl, h.cell rfl, h.cell rfl, h.cell rfl, h.froz, h.lt⟩

set_option maxRecDepth 100000 in
set_option maxHeartbeats 1000000 in
theorem levels_any (W H t s R : Int) (pv tv lv : Value) (w : World) (hR : R = 53 ∨ R = 85) :
    Calls Tryz.prog 50 #[.agg #[.int .i64 W, .int .i64 H, pv, .int .i64 t, .int .i64 s, .int .i64 R, tv, lv]] w fun e w' => e = .returned (.int .i64 ((if R = 85 then 2 else 4 : Nat) : Int)) ∧ Below w.heap.size w w' := by
  rcases hR with rfl | rfl
  · go_enter Tryz.func50, Tryz.ntmps50
    go_wp2_with (go_at_call 68; refine (pRows2 _).mono ?_; rintro e w' ⟨rfl, rfl⟩)
    go_ret
    exact ⟨rfl, (by repeat (first | (with_reducible exact Below.refl _ _) | (with_reducible assumption) | ((with_reducible refine Below.setCell ?_ ?_ _); rotate_left; (focus (first | omega | (simp; done) | (simp; omega)))) | (with_reducible refine Below.drew ?_) | (with_reducible refine below_drewN ?_ _) | ((with_reducible refine Below.alloc ?_ ?_ _); rotate_left; (focus (first | omega | (simp; done) | (simp; omega))))))⟩
  · go_enter Tryz.func50, Tryz.ntmps50
    go_wp2_with (go_at_call 68; refine (pRows2 _).mono ?_; rintro e w' ⟨rfl, rfl⟩)
    go_ret
    exact ⟨rfl, (by repeat (first | (with_reducible exact Below.refl _ _) | (with_reducible assumption) | ((with_reducible refine Below.setCell ?_ ?_ _); rotate_left; (focus (first | omega | (simp; done) | (simp; omega)))) | (with_reducible refine Below.drew ?_) | (with_reducible refine below_drewN ?_ _) | ((with_reducible refine Below.alloc ?_ ?_ _); rotate_left; (focus (first | omega | (simp; done) | (simp; omega))))))⟩

/-- The pixel in row k of the page and column x, counted from the frame's outer edge: does it exist, and its shade. -/
def vThere (W H : Int) (l o : List Int) (s : Int) (k : Nat) (x : Int) : Bool := !(o.getD k 0 == -1) && thereB W H l (o.getD k 0 - 3 * s + x) k
def vShade (W H : Int) (px l o : List Int) (s : Int) (k : Nat) (x : Int) : Int := if o.getD k 0 = -1 then 0 else shadeF W H px l (o.getD k 0 - 3 * s + x) k

set_option maxRecDepth 100000 in
set_option maxHeartbeats 2000000 in
theorem vpixel_any (W H t s R : Int) (a : Option Addr) (np cp : Nat) (tv lv : Value) (px l o : List Int) (k : Nat) (x : Int) (w : World) (h : ImgOk w W H (.slice a np cp) px) (ht : Reads (Value.int .i64) w tv l) (hl : Reads (Value.int .i64) w lv o) (hW : (l.length : Int) = W) (hok : listOk l = true) (hoo : listOk o = true) (hs : 3 ≤ s ∧ s ≤ 6) (hk : k < o.length) (hk2 : k ≤ 1000) (hx : 0 ≤ x ∧ x ≤ 400) :
    Calls Tryz.prog 80 #[.agg #[.int .i64 W, .int .i64 H, .slice a np cp, .int .i64 t, .int .i64 s, .int .i64 R, tv, lv], .int .i64 k, .int .i64 x] w fun e w' => e = .returned (.tuple #[.int .i64 (vShade W H px l o s k x), .bool (vThere W H l o s k x)]) ∧ Below w.heap.size w w' := by
  obtain ⟨b, off, cap, rfl, hc1, hc2, hb, hc⟩ := hl.some (by omega)
  obtain ⟨hb1, hb2⟩ := listOk_get hoo hk
  obtain ⟨z, hz⟩ : ∃ z, z = o.getD k 0 := ⟨_, rfl⟩
  have c0 := hc k _ (getD_some (d := 0) hk)
  rw [← hz] at c0 hb1 hb2
  have hkl : (k : Int) < (o.length : Int) := by omega
  have HPX := Lib.hid (fun wz hI hT => lpixel_any W H (.slice a np cp) tv px l k (z - 3 * s + x) wz hI hT hW hok ⟨by omega, by omega⟩ ⟨by omega, by omega⟩)
  have HI := Lib.hid h
  have HT := Lib.hid ht
  have hv1 : vShade W H px l o s k x = if z = -1 then 0 else shadeF W H px l (z - 3 * s + x) k := by rw [vShade, ← hz]
  have hv2 : vThere W H l o s k x = (!(z == -1) && thereB W H l (z - 3 * s + x) k) := by rw [vThere, ← hz]
  rw [hv1, hv2]
  obtain ⟨ta, tc, rfl, -⟩ := id ht
  clear hv1 hv2 hz hc h ht hl hok hoo hW
  by_cases hz1 : z = -1
  · subst hz1
    simp only [if_true, beq_self_eq_true, Bool.not_true, Bool.false_and]
    go_enter Tryz.func80, Tryz.ntmps80
    go_wp2_with fail
    go_ret2
    exact ⟨rfl, (by repeat (first | (with_reducible exact Below.refl _ _) | (with_reducible assumption) | ((with_reducible refine Below.setCell ?_ ?_ _); rotate_left; (focus (first | omega | (simp; done) | (simp; omega)))) | (with_reducible refine Below.drew ?_) | (with_reducible refine below_drewN ?_ _) | ((with_reducible refine Below.alloc ?_ ?_ _); rotate_left; (focus (first | omega | (simp; done) | (simp; omega))))))⟩
  · have hzb : (z == -1) = false := by simpa using hz1
    rw [if_neg hz1, hzb]
    simp only [Bool.not_false, Bool.true_and]
    have h3 : IntKind.i64.wrap (3 * s) = 3 * s := IntWalk.i64_in _ (by omega)
    have h4 : IntKind.i64.wrap (z - 3 * s) = z - 3 * s := IntWalk.i64_in _ (by omega)
    have h5 : IntKind.i64.wrap (z - 3 * s + x) = z - 3 * s + x := IntWalk.i64_in _ (by omega)
    go_enter Tryz.func80, Tryz.ntmps80
    go_wp2_with fail
    refine (HPX.out _ (HI.out.below (below_alloc _ _)) (HT.out.below (below_alloc _ _))).mono ?_
    rintro e w1 ⟨rfl, hb1'⟩
    have hB := binto (below_alloc w _) hb1'
    dsimp only
    go_wp2_with fail
    go_ret2
    exact ⟨rfl, hB⟩

set_option maxRecDepth 100000 in
set_option maxHeartbeats 2000000 in
theorem centre_any (W H t s R : Int) (a : Option Addr) (np cp : Nat) (tv lv : Value) (px l o : List Int) (r c : Nat) (w : World) (h : ImgOk w W H (.slice a np cp) px) (ht : Reads (Value.int .i64) w tv l) (hl : Reads (Value.int .i64) w lv o) (hW : (l.length : Int) = W) (hok : listOk l = true) (hoo : listOk o = true) (hs : 3 ≤ s ∧ s ≤ 6) (hr : (r : Int) < R) (hR : R ≤ 85) (hlen : (o.length : Int) = R * s) (hc : c < 58) :
    Calls Tryz.prog 51 #[.agg #[.int .i64 W, .int .i64 H, .slice a np cp, .int .i64 t, .int .i64 s, .int .i64 R, tv, lv], .int .i64 r, .int .i64 c] w fun e w' => e = .returned (.tuple #[.int .i64 (vShade W H px l o s ((r : Int) * s + s / 2).toNat ((c : Int) * s + s / 2)), .bool (vThere W H l o s ((r : Int) * s + s / 2).toNat ((c : Int) * s + s / 2))]) ∧ Below w.heap.size w w' := by
  obtain ⟨k, hk⟩ : ∃ k : Nat, (k : Int) = (r : Int) * s + s / 2 := ⟨((r : Int) * s + s / 2).toNat, by have := Int.mul_nonneg (show (0 : Int) ≤ r by omega) (show 0 ≤ s by omega); omega⟩
  obtain ⟨x, hx⟩ : ∃ x : Nat, (x : Int) = (c : Int) * s + s / 2 := ⟨((c : Int) * s + s / 2).toNat, by have := Int.mul_nonneg (show (0 : Int) ≤ c by omega) (show 0 ≤ s by omega); omega⟩
  have hkl : k < o.length := by
    have := Int.mul_le_mul_of_nonneg_right (show (r : Int) + 1 ≤ R by omega) (show 0 ≤ s by omega)
    rw [Int.add_mul] at this
    omega
  have hrs : (r : Int) * s ≤ 85 * 6 := Int.mul_le_mul (by omega) (by omega) (by omega) (by omega)
  have hcs : (c : Int) * s ≤ 57 * 6 := Int.mul_le_mul (by omega) (by omega) (by omega) (by omega)
  have hrs0 := Int.mul_nonneg (show (0 : Int) ≤ r by omega) (show 0 ≤ s by omega)
  have hcs0 := Int.mul_nonneg (show (0 : Int) ≤ c by omega) (show 0 ≤ s by omega)
  have HPX := Lib.hid (fun wz hI hT hL => vpixel_any W H t s R a np cp tv lv px l o k x wz hI hT hL hW hok hoo hs hkl (by omega) ⟨by omega, by omega⟩)
  rw [← hk, ← hx, Int.toNat_natCast]
  have HI := Lib.hid h
  have HT := Lib.hid ht
  have HL := Lib.hid hl
  have h1 : IntKind.i64.wrap ((r : Int) * s) = (r : Int) * s := IntWalk.i64_in _ (by omega)
  have h2 : IntKind.i64.wrap ((c : Int) * s) = (c : Int) * s := IntWalk.i64_in _ (by omega)
  obtain ⟨q, hq⟩ : ∃ q, q = s / 2 := ⟨_, rfl⟩
  have h3 : Int.tdiv s 2 = q := by rw [hq, Int.tdiv_eq_ediv_of_nonneg (by omega)]
  have h4 : IntKind.i64.wrap q = q := IntWalk.i64_in _ (by omega)
  have h5 : IntKind.i64.wrap ((r : Int) * s + q) = (k : Int) := by rw [hq, ← hk]; exact IntWalk.i64_in _ (by omega)
  have h6 : IntKind.i64.wrap ((c : Int) * s + q) = (x : Int) := by rw [hq, ← hx]; exact IntWalk.i64_in _ (by omega)
  obtain ⟨ta, tc, rfl, -⟩ := id ht
  obtain ⟨la, lc, rfl, -⟩ := id hl
  clear hk hx hq h ht hl hok hoo hW hlen hkl hrs hcs hrs0 hcs0
  go_enter Tryz.func51, Tryz.ntmps51
  go_wp2_with fail
  refine (HPX.out _ (HI.out.below (below_alloc _ _)) (HT.out.below (below_alloc _ _)) (HL.out.below (below_alloc _ _))).mono ?_
  rintro e w1 ⟨rfl, hb1'⟩
  have hB := binto (below_alloc w _) hb1'
  dsimp only
  go_wp2_with fail
  go_ret2
  exact ⟨rfl, hB⟩

end Go.Proofs.YtnfgedbcfclnmaaGreat
