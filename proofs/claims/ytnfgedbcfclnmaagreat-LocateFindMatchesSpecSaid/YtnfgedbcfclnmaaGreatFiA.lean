/- The parts of the document that turn an image and count agreeing cells compute what plain functions say. Conditions: each contract names its own (a valid image, lists in bounds). -/
import Derived.Test.YtnfgedbcfclnmaaGreatFindF
import Derived.Test.YtnfgedbcfclnmaaGreatKit
import Derived.Test.YtnfgedbcfclnmaaGreatTurnA
import Derived.Deep.RegionHeld3
import Derived.Test.YtnfgedbcfclnmaaGreatTurnF
import Derived.Laws.IdiomStrings
import Derived.Test.YtnfgedbcfclnmaaGreatCell
import Derived.Test.YtnfgedbcfclnmaaGreatColW
import Derived.Test.YtnfgedbcfclnmaaGreatKit5
import Derived.Test.YtnfgedbcfclnmaaGreatThere
import Derived.Test.YtnfgedbcfclnmaaGreatAgree
set_option linter.unusedVariables false
set_option linter.unusedSimpArgs false

namespace Go.Proofs.YtnfgedbcfclnmaaGreat
open Go.RowKit

def pxAt (i : Img) (x y : Nat) : Int := i.2.2.getD (y * i.1 + x) 0
theorem img_ext {i j : Img} (hi : IOk i) (hj : IOk j) (hW : i.1 = j.1) (hH : i.2.1 = j.2.1) (h : ∀ x y, x < i.1 → y < i.2.1 → pxAt i x y = pxAt j x y) : i = j := by
  obtain ⟨W, H, px⟩ := i
  obtain ⟨W', H', qx⟩ := j
  dsimp only at hW hH
  subst hW hH
  have e : px = qx := by
    have l1 : px.length = W * H := hi.len
    have l2 : qx.length = W * H := hj.len
    apply List.ext_getElem (by omega)
    intro m h1 h2
    have hm : m < W * H := by omega
    obtain ⟨_, _, a, b, -, -⟩ := qparts hm
    have := h (m % W) (m / W) b a
    simp only [pxAt] at this
    rw [Nat.div_add_mod' m W] at this
    simpa [List.getD, h1, h2] using this
  rw [e]
theorem getD_map_range (f : Nat → Int) {n m : Nat} (h : m < n) : ((List.range n).map f).getD m 0 = f m := by
  simp [List.getD, h]
theorem at_qua {i : Img} {W H x y : Nat} (hW : i.1 = W) (hH : i.2.1 = H) (hx : x < H) (hy : y < W) : pxAt (quaI i) x y = pxAt i y (H - 1 - x) := by
  subst hW hH
  simp only [pxAt, quaI, quaL]
  rw [getD_map_range _ (qlt hy hx), quaS, (qcore hx).1, (qcore hx).2]
theorem at_mir {i : Img} {W H x y : Nat} (hW : i.1 = W) (hH : i.2.1 = H) (hx : x < W) (hy : y < H) : pxAt (mirI i) x y = pxAt i (W - 1 - x) y := by
  subst hW hH
  have hm : y * i.1 + x < i.1 * i.2.1 := by rw [Nat.mul_comm i.1]; exact qlt hy hx
  simp only [pxAt, mirI, mirL]
  rw [getD_map_range _ hm, mirS, (qcore hx).1, (qcore hx).2]

theorem qua4 {i : Img} (hi : IOk i) : quaI (quaI (quaI (quaI i))) = i := by
  have := hi.w1
  have := hi.h1
  refine img_ext hi.qua.qua.qua.qua hi rfl rfl fun x y hx hy => ?_
  replace hx : x < i.1 := hx
  replace hy : y < i.2.1 := hy
  rw [at_qua (i := quaI (quaI (quaI i))) (W := i.2.1) (H := i.1) rfl rfl hx hy, at_qua (i := quaI (quaI i)) (W := i.1) (H := i.2.1) rfl rfl hy (by omega), at_qua (i := quaI i) (W := i.2.1) (H := i.1) rfl rfl (by omega) (by omega), at_qua (i := i) (W := i.1) (H := i.2.1) rfl rfl (by omega) (by omega)]
  congr 1 <;> omega
theorem mir2 {i : Img} (hi : IOk i) : mirI (mirI i) = i := by
  have := hi.w1
  refine img_ext hi.mir.mir hi rfl rfl fun x y hx hy => ?_
  replace hx : x < i.1 := hx
  replace hy : y < i.2.1 := hy
  rw [at_mir (i := mirI i) (W := i.1) (H := i.2.1) rfl rfl hx hy, at_mir (i := i) (W := i.1) (H := i.2.1) rfl rfl (by omega) hy]
  congr 1; omega
theorem mir_qua {i : Img} (hi : IOk i) : mirI (quaI i) = quaI (quaI (quaI (mirI i))) := by
  have := hi.w1
  have := hi.h1
  refine img_ext hi.qua.mir hi.mir.qua.qua.qua rfl rfl fun x y hx hy => ?_
  replace hx : x < i.2.1 := hx
  replace hy : y < i.1 := hy
  rw [at_mir (i := quaI i) (W := i.2.1) (H := i.1) rfl rfl hx hy, at_qua (i := i) (W := i.1) (H := i.2.1) rfl rfl (by omega) hy,
    at_qua (i := quaI (quaI (mirI i))) (W := i.1) (H := i.2.1) rfl rfl hx hy, at_qua (i := quaI (mirI i)) (W := i.2.1) (H := i.1) rfl rfl hy (by omega), at_qua (i := mirI i) (W := i.1) (H := i.2.1) rfl rfl (by omega) (by omega), at_mir (i := i) (W := i.1) (H := i.2.1) rfl rfl (by omega) (by omega)]
  congr 1 <;> omega

theorem quaN_add (i : Img) (a : Nat) : ∀ b, quaN b (quaN a i) = quaN (a + b) i
  | 0 => rfl
  | b + 1 => by
    show quaI (quaN b (quaN a i)) = quaI (quaN (a + b) i)
    rw [quaN_add i a b]
theorem quaN_four {i : Img} (hi : IOk i) : ∀ k, quaN (4 * k) i = i
  | 0 => rfl
  | k + 1 => by
    rw [show 4 * (k + 1) = 4 * k + 4 by omega, ← quaN_add, quaN_four hi k]
    exact qua4 hi
theorem quaN_mod {i : Img} (hi : IOk i) (n : Nat) : quaN n i = quaN (n % 4) i := by
  have h := quaN_add i (4 * (n / 4)) (n % 4)
  rw [quaN_four hi, show 4 * (n / 4) + n % 4 = n by omega] at h
  exact h.symm
theorem quaN_eq {i : Img} (hi : IOk i) {a b : Nat} (h : a % 4 = b % 4) : quaN a i = quaN b i := by
  rw [quaN_mod hi a, quaN_mod hi b, h]
theorem mir_quaN {i : Img} (hi : IOk i) : ∀ a, mirI (quaN a i) = quaN (3 * a) (mirI i)
  | 0 => rfl
  | a + 1 => by
    show mirI (quaI (quaN a i)) = _
    rw [mir_qua (hi.quaN a), mir_quaN hi a]
    show quaN 3 (quaN (3 * a) (mirI i)) = _
    rw [quaN_add]
    rfl

/-- The composed turn. -/
def cN (s t : Nat) : Nat := (compF s t).toNat
theorem cN_val {s t : Nat} (hs : s < 8) (ht : t < 8) : cN s t = (s / 4 + t / 4) % 2 * 4 + ((if 4 ≤ t then 4 - s % 4 else s) + t) % 4 := by
  unfold cN compF
  by_cases h : 4 ≤ t
  · rw [if_pos h, if_pos (by omega)]; omega
  · rw [if_neg h, if_neg (by omega)]; omega
theorem turn_comp {i : Img} (hi : IOk i) {s t : Nat} (hs : s < 8) (ht : t < 8) : turnI (turnI i s) t = turnI i (cN s t) := by
  have hv := cN_val hs ht
  generalize cN s t = c at *
  unfold turnI
  by_cases h4 : 4 ≤ t
  · rw [if_pos h4] at hv ⊢
    by_cases h5 : 4 ≤ s
    · rw [if_pos h5, mir_quaN hi.mir, mir2 hi, quaN_add, if_neg (by omega)]
      exact quaN_eq hi (by omega)
    · rw [if_neg h5, mir_quaN hi, quaN_add, if_pos (by omega)]
      exact quaN_eq hi.mir (by omega)
  · rw [if_neg h4] at hv ⊢
    by_cases h5 : 4 ≤ s
    · rw [if_pos h5, quaN_add, if_pos (by omega)]
      exact quaN_eq hi.mir (by omega)
    · rw [if_neg h5, quaN_add, if_neg (by omega)]
      exact quaN_eq hi (by omega)

theorem c_fin : ∀ k, k < 8 → ∀ t, t < 8 → cN k t < 8 ∧ cN t (invF (cN k t : Nat)).toNat = (invF k).toNat ∧ (invF (cN k t : Nat)).toNat < 8 := by decide
theorem up_turn {i : Img} (hi : IOk i) {k t : Nat} (hk : k < 8) (ht : t < 8) : upI (turnI i t) (cN k t) = upI i k := by
  obtain ⟨h1, h2, h3⟩ := c_fin k hk t ht
  unfold upI
  rw [turn_comp hi ht h3, h2]
theorem c_perm : ∀ t, t < 8 → ((List.range 8).map fun k => cN k t).Perm (List.range 8) := by decide

theorem fm_congr {α β : Type} {f g : α → Option β} : ∀ {l : List α}, (∀ a ∈ l, f a = g a) → l.filterMap f = l.filterMap g
  | [], _ => rfl
  | a :: l, h => by
    rw [List.filterMap_cons, List.filterMap_cons, h a (by simp), fm_congr fun b hb => h b (by simp [hb])]
theorem acc_turn {i : Img} (hi : IOk i) {t : Nat} (ht : t < 8) {xs ys : Nat → Option Fr} (hx : ∀ k, k < 8 → AccIs (upI i k) (xs k)) (hy : ∀ k, k < 8 → AccIs (upI (turnI i t) k) (ys k)) :
    (accL ys 8).Perm ((accL xs 8).map fun p => (cN p.1 t, p.2)) := by
  have hyx : ∀ k, k < 8 → ys (cN k t) = xs k := fun k hk => by
    have h := hy (cN k t) (c_fin k hk t ht).1
    rw [up_turn hi hk ht] at h
    exact h.unique (hx k hk)
  unfold accL
  refine ((c_perm t ht).symm.filterMap _).trans ?_
  rw [List.filterMap_map, List.map_filterMap]
  rw [fm_congr (g := fun k => ((xs k).map fun f => (k, f)).map fun p => (cN p.1 t, p.2)) fun k hk => by
    have hk8 : k < 8 := by simpa using hk
    simp only [Function.comp]
    rw [hyx k hk8]
    cases xs k <;> rfl]

end Go.Proofs.YtnfgedbcfclnmaaGreat

namespace Go.Proofs.YtnfgedbcfclnmaaGreat
open Go.RowKit

def srcF (W H t x y : Int) : Int × Int :=
  if t = 1 then (y, H - 1 - x) else if t = 2 then (W - 1 - x, H - 1 - y) else if t = 3 then (W - 1 - y, x) else if t = 4 then (W - 1 - x, y)
  else if t = 5 then (W - 1 - y, H - 1 - x) else if t = 6 then (x, H - 1 - y) else if t = 7 then (y, x) else (x, y)

set_option maxRecDepth 100000 in
set_option maxHeartbeats 1000000 in
theorem source_any (W H t x y : Int) (w : World) (hW : 0 ≤ W ∧ W ≤ 1000) (hH : 0 ≤ H ∧ H ≤ 1000) (hx : 0 ≤ x ∧ x ≤ 1000) (hy : 0 ≤ y ∧ y ≤ 1000) (ht : 0 ≤ t ∧ t < 8) :
    Calls Tryz.prog 53 #[.int .i64 W, .int .i64 H, .int .i64 t, .int .i64 x, .int .i64 y] w fun e w' => e = .returned (.tuple #[.int .i64 (srcF W H t x y).1, .int .i64 (srcF W H t x y).2]) ∧ w = w' := by
  obtain ⟨t', rfl⟩ : ∃ n : Nat, t = n := ⟨t.toNat, by omega⟩
  have h8 : t' = 0 ∨ t' = 1 ∨ t' = 2 ∨ t' = 3 ∨ t' = 4 ∨ t' = 5 ∨ t' = 6 ∨ t' = 7 := by omega
  rcases h8 with rfl | rfl | rfl | rfl | rfl | rfl | rfl | rfl
  all_goals
    (go_enter Tryz.func53, Tryz.ntmps53
     go_wp2
     go_ret2
     exact ⟨rfl, rfl⟩)

end Go.Proofs.YtnfgedbcfclnmaaGreat

namespace Go.Proofs.YtnfgedbcfclnmaaGreat
open Go.RowKit

theorem turn_src {i : Img} (hi : IOk i) : ∀ t : Nat, t < 8 → ∀ x y : Nat, x < (turnI i t).1 → y < (turnI i t).2.1 →
    ∃ sx sy : Nat, srcF i.1 i.2.1 t x y = ((sx : Int), (sy : Int)) ∧ sx < i.1 ∧ sy < i.2.1 ∧ pxAt (turnI i t) x y = pxAt i sx sy := by
  have w1 := hi.w1
  have h1 := hi.h1
  intro t ht x y hx hy
  have h8 : t = 0 ∨ t = 1 ∨ t = 2 ∨ t = 3 ∨ t = 4 ∨ t = 5 ∨ t = 6 ∨ t = 7 := by omega
  rcases h8 with rfl | rfl | rfl | rfl | rfl | rfl | rfl | rfl
  · replace hx : x < i.1 := hx
    replace hy : y < i.2.1 := hy
    exact ⟨x, y, rfl, hx, hy, rfl⟩
  · replace hx : x < i.2.1 := hx
    replace hy : y < i.1 := hy
    refine ⟨y, i.2.1 - 1 - x, by simp [srcF]; omega, hy, by omega, ?_⟩
    exact at_qua (i := i) rfl rfl hx hy
  · replace hx : x < i.1 := hx
    replace hy : y < i.2.1 := hy
    refine ⟨i.1 - 1 - x, i.2.1 - 1 - y, by simp [srcF]; omega, by omega, by omega, ?_⟩
    show pxAt (quaI (quaI i)) x y = _
    rw [at_qua (i := quaI i) (W := i.2.1) (H := i.1) rfl rfl hx hy, at_qua (i := i) (W := i.1) (H := i.2.1) rfl rfl hy (by omega)]
  · replace hx : x < i.2.1 := hx
    replace hy : y < i.1 := hy
    refine ⟨i.1 - 1 - y, x, by simp [srcF]; omega, by omega, hx, ?_⟩
    show pxAt (quaI (quaI (quaI i))) x y = _
    rw [at_qua (i := quaI (quaI i)) (W := i.1) (H := i.2.1) rfl rfl hx hy, at_qua (i := quaI i) (W := i.2.1) (H := i.1) rfl rfl hy (by omega), at_qua (i := i) (W := i.1) (H := i.2.1) rfl rfl (by omega) (by omega)]
    congr 1; omega
  · replace hx : x < i.1 := hx
    replace hy : y < i.2.1 := hy
    refine ⟨i.1 - 1 - x, y, by simp [srcF]; omega, by omega, hy, ?_⟩
    exact at_mir (i := i) rfl rfl hx hy
  · replace hx : x < i.2.1 := hx
    replace hy : y < i.1 := hy
    refine ⟨i.1 - 1 - y, i.2.1 - 1 - x, by simp [srcF]; omega, by omega, by omega, ?_⟩
    show pxAt (quaI (mirI i)) x y = _
    rw [at_qua (i := mirI i) (W := i.1) (H := i.2.1) rfl rfl hx hy, at_mir (i := i) (W := i.1) (H := i.2.1) rfl rfl hy (by omega)]
  · replace hx : x < i.1 := hx
    replace hy : y < i.2.1 := hy
    refine ⟨x, i.2.1 - 1 - y, by simp [srcF]; omega, hx, by omega, ?_⟩
    show pxAt (quaI (quaI (mirI i))) x y = _
    rw [at_qua (i := quaI (mirI i)) (W := i.2.1) (H := i.1) rfl rfl hx hy, at_qua (i := mirI i) (W := i.1) (H := i.2.1) rfl rfl hy (by omega), at_mir (i := i) (W := i.1) (H := i.2.1) rfl rfl (by omega) (by omega)]
    congr 1; omega
  · replace hx : x < i.2.1 := hx
    replace hy : y < i.1 := hy
    refine ⟨y, x, by simp [srcF], hy, hx, ?_⟩
    show pxAt (quaI (quaI (quaI (mirI i)))) x y = _
    rw [at_qua (i := quaI (quaI (mirI i))) (W := i.1) (H := i.2.1) rfl rfl hx hy, at_qua (i := quaI (mirI i)) (W := i.2.1) (H := i.1) rfl rfl hy (by omega), at_qua (i := mirI i) (W := i.1) (H := i.2.1) rfl rfl (by omega) (by omega), at_mir (i := i) (W := i.1) (H := i.2.1) rfl rfl (by omega) (by omega)]
    congr 1 <;> omega

theorem undone_marked : ∀ t, t < 8 → ∀ u, u < 8 → (turnI (turnI (2, 3, [1, 2, 3, 4, 5, 6]) t) u = (2, 3, [1, 2, 3, 4, 5, 6]) ↔ (u : Int) = invF t) := by decide

end Go.Proofs.YtnfgedbcfclnmaaGreat

namespace Go.Proofs.YtnfgedbcfclnmaaGreat
open Go.RowKit

structure WhEnv (w : World) (W H N : Nat) (bO g k : Nat) (wx : World) : Prop where
  below : Below w.heap.size w wx
  res : Blk wx w.heap.size #[.int .i64 0, .int .i64 0, .slice none 0 0] 24
  o : Blk wx bO #[.int .i64 W, .int .i64 H, .slice (some ⟨g, 0, none⟩) N N] 24
  px : LBlk wx g (List.replicate k (.int .u8 255) ++ List.replicate (N - k) (.int .u8 0)) 5
  hO : w.heap.size < bO
  hg : w.heap.size < g
  hne : bO ≠ g

set_option maxRecDepth 100000 in
set_option maxHeartbeats 2000000 in
theorem white_any (W H N : Nat) (w : World) (hN : W * H = N) (hN1 : 1 ≤ N) (hN2 : N ≤ 409600) (hW : W ≤ 640) (hH : H ≤ 640) :
    Calls Tryz.prog 52 #[.int .i64 W, .int .i64 H] w (ImgRet W H (List.replicate N 255) w) := by
  have hmul : IntKind.i64.wrap ((W : Int) * (H : Int)) = (N : Int) := by
    rw [← hN, Int.natCast_mul]
    refine IntWalk.i64_in _ ?_
    rw [← Int.natCast_mul, hN]; omega
  clear hN
  go_enter Tryz.func52, Tryz.ntmps52
  go_wp2_with (at_make; refine wp_make1 _ rfl _ _ 22 rfl 5 (.int .u8 0) 1 Tryz.underlying22 Tryz.infoByte rfl (by decide) _ N rfl rfl rfl (by omega) ?_)
  generalize hW0 : World.alloc (World.alloc (World.alloc w _) _) _ = W0
  have E0 : WhEnv w W H N (w.heap.size + 1 + 1) (w.heap.size + 1) 0 W0 := by
    rw [← hW0]
    exact ⟨(by repeat (first | (with_reducible exact Below.refl _ _) | (with_reducible assumption) | ((with_reducible refine Below.setCell ?_ ?_ _); rotate_left; (focus (first | omega | (simp; done) | (simp; omega)))) | (with_reducible refine Below.drew ?_) | (with_reducible refine below_drewN ?_ _) | ((with_reducible refine Below.alloc ?_ ?_ _); rotate_left; (focus (first | omega | (simp; done) | (simp; omega)))))), ((Blk.new _ _ _).alloc _).alloc _, Blk.newAt _ _ (by simp), LBlk.alloc (Blk.newAt _ _ (by simp)) _, by omega, by omega, by omega⟩
  obtain ⟨bO, hbO⟩ : ∃ bO, bO = w.heap.size + 1 + 1 := ⟨_, rfl⟩
  obtain ⟨g, hg⟩ : ∃ g, g = w.heap.size + 1 := ⟨_, rfl⟩
  rw [← hbO, ← hg] at E0
  rw [← hbO, ← hg]
  clear hW0 hbO hg
  go_loopw [6] (fun x wr => ∃ k : Nat, x = .int .i64 k ∧ k ≤ N ∧ WhEnv w W H N bO g k wr) (fun x _ => N - (intOf x).toNat)
  case atStart => exact ⟨0, rfl, by omega, E0⟩
  case round =>
    clear E0
    obtain ⟨k, rfl, hk, E⟩ := hrel
    obtain ⟨wb, rfl⟩ : ∃ wo : World, wo = wr := ⟨_, rfl⟩
    obtain ⟨o0, o1, o2, of, olt⟩ := E.o.d3
    by_cases hkN : k < N
    · have hd1 : decide ((k : Int) < (N : Int)) = true := by simp; omega
      have hd2 : (k : Int) < (N : Int) := by omega
      have c1 := E.px.cell (i := k) (v := .int .u8 0) (by rw [List.getElem?_append_right (by simp), List.length_replicate, Nat.sub_self]; exact List.getElem?_replicate_of_lt (by omega))
      have c2 := E.px.froz k
      have c3 := E.px.lt
      go_wp2_with fail
      go_roundw
      case rel =>
        have hO := E.hO
        have hgg := E.hg
        have hne := E.hne
        have hB := E.below
        refine ⟨k + 1, by go_num, by omega, (by repeat (first | (with_reducible exact Below.refl _ _) | (with_reducible assumption) | ((with_reducible refine Below.setCell ?_ ?_ _); rotate_left; (focus (first | omega | (simp; done) | (simp; omega)))) | (with_reducible refine Below.drew ?_) | (with_reducible refine below_drewN ?_ _) | ((with_reducible refine Below.alloc ?_ ?_ _); rotate_left; (focus (first | omega | (simp; done) | (simp; omega)))))), E.res.set_other (by simp; omega) _, E.o.set_other (by simpa using hne) _, ?_, hO, hgg, hne⟩
        have h9 := E.px.set (i := k) (.int .u8 255)
        rw [set_next (by simp) hkN] at h9
        rw [List.replicate_succ', List.append_assoc]
        exact h9
      case measure => simp [intOf]; omega
    · obtain rfl : k = N := by omega
      obtain ⟨r0, r1, r2, rf, rlt⟩ := E.res.d3
      have hB := E.below
      have hgg := E.hg
      have hL := E.px
      go_wp2_with fail
      refine bodyPost_ret (v := .agg #[.int .i64 W, .int .i64 H, .slice (some ⟨g, 0, none⟩) k k]) (by simp [results, Tryz.results52, go_sem, r0, r1, r2, rf, rlt]) rfl ⟨g, ?_, by omega, ?_, (by repeat (first | (with_reducible exact Below.refl _ _) | (with_reducible assumption) | ((with_reducible refine Below.setCell ?_ ?_ _); rotate_left; (focus (first | omega | (simp; done) | (simp; omega)))) | (with_reducible refine Below.drew ?_) | (with_reducible refine below_drewN ?_ _) | ((with_reducible refine Below.alloc ?_ ?_ _); rotate_left; (focus (first | omega | (simp; done) | (simp; omega))))))⟩
      · rw [List.length_replicate]
      · rw [List.map_replicate]
        rw [Nat.sub_self, List.replicate_zero, List.append_nil] at hL
        exact ((hL.set_other (by simp; omega) _).set_other (by simp; omega) _).set_other (by simp; omega) _

end Go.Proofs.YtnfgedbcfclnmaaGreat

namespace Go.Proofs.YtnfgedbcfclnmaaGreat
open Go.RowKit

theorem below_allocT {w : World} {B : Nat} (h : B ≤ w.heap.size) (o : Obj) : Below B w (w.alloc o) := (Below.refl _ _).alloc h _
theorem source_q {W H t x y : Int} {sx sy : Nat} (h : srcF W H t x y = ((sx : Int), (sy : Int))) (w : World) (hW : 0 ≤ W ∧ W ≤ 1000) (hH : 0 ≤ H ∧ H ≤ 1000) (hx : 0 ≤ x ∧ x ≤ 1000) (hy : 0 ≤ y ∧ y ≤ 1000) (ht : 0 ≤ t ∧ t < 8) :
    Calls Tryz.prog 53 #[.int .i64 W, .int .i64 H, .int .i64 t, .int .i64 x, .int .i64 y] w fun e w' => e = .returned (.tuple #[.int .i64 sx, .int .i64 sy]) ∧ w' = w :=
  (source_any W H t x y w hW hH hx hy ht).mono fun e w' hh => ⟨by rw [hh.1, h], hh.2.symm⟩

/-- The image made so far. -/
def trdTo (j : Img) (k : Nat) : List Int := (List.range j.2.2.length).map fun m => if m < k then j.2.2.getD m 0 else 255
theorem trdTo_zero (j : Img) : trdTo j 0 = List.replicate j.2.2.length 255 := by
  apply List.ext_getElem
  · simp [trdTo]
  · intro m h1 h2; simp [trdTo]
theorem trdTo_all (j : Img) : trdTo j j.2.2.length = j.2.2 := by
  apply List.ext_getElem
  · simp [trdTo]
  · intro m h1 h2
    simp [trdTo, List.getD, h2]
theorem trdTo_succ {j : Img} {k : Nat} (hk : k < j.2.2.length) : (trdTo j k).set k (j.2.2.getD k 0) = trdTo j (k + 1) := by
  apply List.ext_getElem
  · simp [trdTo]
  · intro m h1 h2
    simp only [trdTo, List.getElem_set, List.getElem_map, List.getElem_range]
    by_cases e : k = m
    · rw [if_pos e, if_pos (by omega), e]
    · rw [if_neg e]
      by_cases h : m < k
      · rw [if_pos h, if_pos (by omega)]
      · rw [if_neg h, if_neg (by omega)]

/-- The pixel that Turned writes at place n. -/
theorem turned_px {i : Img} (hi : IOk i) {t n : Nat} (ht : t < 8) (hn : n < (turnI i t).2.2.length) :
    ∃ sx sy : Nat, srcF i.1 i.2.1 t (n % (turnI i t).1 : Nat) (n / (turnI i t).1 : Nat) = ((sx : Int), (sy : Int)) ∧ sx < i.1 ∧ sy < i.2.1 ∧ (turnI i t).2.2.getD n 0 = pixF i.1 i.2.1 i.2.2 sx sy := by
  have ho := hi.turn t
  obtain ⟨_, _, h3, h4, _, _⟩ := qparts (W := (turnI i t).1) (H := (turnI i t).2.1) (n := n) (by rw [← ho.len]; exact hn)
  obtain ⟨sx, sy, h5, h6, h7, h8⟩ := turn_src hi t ht _ _ h4 h3
  refine ⟨sx, sy, h5, h6, h7, ?_⟩
  have e1 : (turnI i t).2.2.getD n 0 = pxAt (turnI i t) (n % (turnI i t).1) (n / (turnI i t).1) := by
    rw [pxAt, Nat.div_add_mod']
  have hx : inB (sx : Int) 0 ((i.1 : Int) - 1) = true := by simp only [inB, Bool.and_eq_true, decide_eq_true_eq]; omega
  have hy : inB (sy : Int) 0 ((i.2.1 : Int) - 1) = true := by simp only [inB, Bool.and_eq_true, decide_eq_true_eq]; omega
  rw [e1, h8, pixF, hx, hy]
  simp only [Bool.and_self, if_true, pxAt]
  congr 1

structure TdEnv (w : World) (iv : Array Value) (j : Img) (bO g N : Nat) (cur : List Int) (wx : World) : Prop where
  below : Below w.heap.size w wx
  img : Blk wx w.heap.size iv 24
  res : Blk wx (w.heap.size + 1) #[.int .i64 0, .int .i64 0, .slice none 0 0] 24
  o : Blk wx bO #[.int .i64 j.1, .int .i64 j.2.1, .slice (some ⟨g, 0, none⟩) N N] 24
  px : LBlk wx g (cur.map (Value.int .u8)) 5
  hO : w.heap.size + 1 < bO
  hg : w.heap.size + 1 < g
  hne : bO ≠ g

theorem TdEnv.keep {w wx w1 : World} {iv : Array Value} {j : Img} {bO g N : Nat} {cur : List Int} (h : TdEnv w iv j bO g N cur wx) (hb : Below wx.heap.size wx w1) : TdEnv w iv j bO g N cur w1 :=
  ⟨binto h.below hb, h.img.keep hb h.img.lt, h.res.keep hb h.res.lt, h.o.keep hb h.o.lt, h.px.keep hb h.px.lt, h.hO, h.hg, h.hne⟩
theorem TdEnv.set {w wx : World} {iv : Array Value} {j : Img} {bO g N : Nat} {cur : List Int} (h : TdEnv w iv j bO g N cur wx) (i : Nat) (v : Int) : TdEnv w iv j bO g N (cur.set i v) (wx.setCell ⟨g, i, none⟩ (.int .u8 v)) := by
  have hg := h.hg
  have hO := h.hO
  have hne := h.hne
  refine ⟨h.below.setCell (show w.heap.size ≤ g by omega) _, h.img.set_other (by simp; omega) _, h.res.set_other (by simp; omega) _, h.o.set_other (by simpa using hne) _, ?_, hO, hg, hne⟩
  rw [List.map_set]
  exact h.px.set _

set_option maxRecDepth 100000 in
set_option maxHeartbeats 4000000 in
theorem turned_even (W H : Nat) (a : Option Addr) (np cp : Nat) (px : List Int) (t : Nat) (w : World) (h : ImgOk w W H (.slice a np cp) px) (ht : t < 8) (hp : t % 2 = 0) :
    Calls Tryz.prog 22 #[.agg #[.int .i64 W, .int .i64 H, .slice a np cp], .int .i64 t] w (ImgRet W H (turnI (W, H, px) t).2.2 w) := by
  have hio := h.iok
  have h1 := h.w1
  have h2 := h.w2
  have h3 := h.h1
  have h4 := h.h2
  obtain ⟨j, hj⟩ : ∃ j, j = turnI (W, H, px) t := ⟨_, rfl⟩
  have hjo : IOk j := by rw [hj]; exact hio.turn t
  obtain ⟨N, hN⟩ : ∃ N, N = j.2.2.length := ⟨_, rfl⟩
  have hj12 : j.1 = W ∧ j.2.1 = H := by
    rw [hj]
    have h8 : t = 0 ∨ t = 2 ∨ t = 4 ∨ t = 6 := by omega
    rcases h8 with rfl | rfl | rfl | rfl <;> exact ⟨rfl, rfl⟩
  have hNW : W * H = N := by rw [hN, hjo.len, hj12.1, hj12.2]
  have hNb := hjo.bound
  rw [← hN] at hNb
  have hpx := fun n hn => turned_px hio (t := t) (n := n) ht hn
  rw [← hj] at hpx ⊢
  have HPX := Lib.hid hpx
  have HJO := Lib.hid hjo
  have HN := Lib.hid hN.symm
  have HI := Lib.hid h
  have HJ := Lib.hid hj12
  have hm : Int.tmod (t : Int) 2 = 0 := by rw [show Int.tmod (t : Int) 2 = ((t % 2 : Nat) : Int) from rfl, hp]; rfl
  clear hj hpx hjo hN h hio hj12 hp
  go_enter Tryz.func22, Tryz.ntmps22
  go_wp2_with fail
  generalize hW0 : World.alloc (World.alloc w _) _ = W0
  have K0 : Blk W0 w.heap.size #[.int .i64 W, .int .i64 H, .slice a np cp] 24 := by rw [← hW0]; exact (Blk.new _ _ _).alloc _
  have R0 : Blk W0 (w.heap.size + 1) #[.int .i64 0, .int .i64 0, .slice none 0 0] 24 := by rw [← hW0]; exact Blk.newAt _ _ (by simp)
  have hB0 : Below w.heap.size w W0 := by rw [← hW0]; exact (by repeat (first | (with_reducible exact Below.refl _ _) | (with_reducible assumption) | ((with_reducible refine Below.setCell ?_ ?_ _); rotate_left; (focus (first | omega | (simp; done) | (simp; omega)))) | (with_reducible refine Below.drew ?_) | (with_reducible refine below_drewN ?_ _) | ((with_reducible refine Below.alloc ?_ ?_ _); rotate_left; (focus (first | omega | (simp; done) | (simp; omega))))))
  clear hW0
  obtain ⟨k0, k1, k2, kf, klt⟩ := K0.d3
  go_wp2_with fail
  refine (white_any W H N W0 hNW (by omega) (by omega) (by omega) (by omega)).mono ?_
  rintro e w1 ⟨g, he, hg, hL, hb1⟩
  rw [List.length_replicate] at he
  subst he
  have hrl := R0.lt
  have hbs := hb1.size
  have hgl := hL.lt
  have E5 : TdEnv w #[.int .i64 W, .int .i64 H, .slice a np cp] j w1.heap.size g N (trdTo j 0) (w1.alloc (.cells #[.int .i64 W, .int .i64 H, .slice (some ⟨g, 0, none⟩) N N] 24)) := by
    refine ⟨(binto hB0 hb1).trans (below_allocT (binto hB0 hb1).size _), (K0.keep hb1 K0.lt).alloc _, (R0.keep hb1 R0.lt).alloc _, ?_, ?_, by omega, by omega, by omega⟩
    · rw [HJ.out.1, HJ.out.2]; exact Blk.new _ _ _
    · rw [trdTo_zero, HN.out]; exact hL.alloc _
  clear k0 k1 k2 kf klt K0 R0 hB0 hb1 hL
  dsimp only
  go_wp2_with fail
  generalize hW5 : World.alloc w1 _ = W5 at E5 ⊢
  obtain ⟨bO, hbO⟩ : ∃ bO, bO = w1.heap.size := ⟨_, rfl⟩
  rw [← hbO] at E5 ⊢
  clear hW5 hbO hrl hbs hgl hg
  go_loopw [6] (fun x wr => ∃ k : Nat, x = .int .i64 k ∧ k ≤ N ∧ TdEnv w #[.int .i64 W, .int .i64 H, .slice a np cp] j bO g N (trdTo j k) wr) (fun x _ => N - (intOf x).toNat)
  case atStart => exact ⟨0, rfl, by omega, E5⟩
  case round =>
    clear E5
    obtain ⟨k, rfl, hk, E⟩ := hrel
    obtain ⟨wb, rfl⟩ : ∃ wo : World, wo = wr := ⟨_, rfl⟩
    obtain ⟨o0, o1, o2, of, olt⟩ := E.o.d3
    by_cases hkN : k < N
    · have hd1 : decide ((k : Int) < (N : Int)) = true := by simp; omega
      have hd2 : (k : Int) < (N : Int) := by omega
      obtain ⟨k0, k1, k2, kf, klt⟩ := E.img.d3
      obtain ⟨sx, sy, hsrc, hsx, hsy, hpx⟩ := HPX.out k (by rw [HN.out]; exact hkN)
      obtain ⟨x, hx⟩ : ∃ x, x = k % j.1 := ⟨_, rfl⟩
      obtain ⟨y, hy⟩ : ∃ y, y = k / j.1 := ⟨_, rfl⟩
      rw [← hx, ← hy] at hsrc
      have hj1 : ¬ (j.1 : Int) = 0 := by have := HJO.out.w1; omega
      have hr1 : Int.tmod (k : Int) (j.1 : Int) = (x : Int) := by rw [hx]; rfl
      have hr2 : Int.tdiv (k : Int) (j.1 : Int) = (y : Int) := by rw [hy]; rfl
      have hxb : x < 640 := by rw [hx]; have := HJO.out.w1; have := HJO.out.w2; have := Nat.mod_lt k (show 0 < j.1 by omega); omega
      have hyb : y ≤ 640 := by
        have := (qparts (W := j.1) (H := j.2.1) (n := k) (by rw [← HJO.out.len, HN.out]; exact hkN)).2.2.1
        have := HJO.out.h2
        omega
      have hr3 : IntKind.i64.wrap (x : Int) = x := IntWalk.i64_in _ (by omega)
      have hr4 : IntKind.i64.wrap (y : Int) = y := IntWalk.i64_in _ (by omega)
      have HSRC := Lib.hid (fun wz => source_q hsrc wz ⟨by omega, by omega⟩ ⟨by omega, by omega⟩ ⟨by omega, by omega⟩ ⟨by omega, by omega⟩ ⟨by omega, by omega⟩)
      have HP := Lib.hid (fun wz hz => pixel_any W H sx sy (.slice a np cp) px wz hz)
      have hset := trdTo_succ (j := j) (k := k) (by rw [HN.out]; exact hkN)
      rw [hpx] at hset
      have HSET := Lib.hid hset
      clear hset hsrc hpx hx hy
      go_wp2_with fail
      go_quiet ((go_at_call 53; exact Calls.quiet_of_same (HSRC.out _)))
      go_wp2_with fail
      generalize hWq : World.drewN wb _ = X
      have hbq : Below wb.heap.size wb X := by rw [← hWq]; exact below_drewN (Below.refl _ _) _
      have E' := E.keep hbq
      clear hWq hbq E o0 o1 o2 of olt k0 k1 k2 kf klt
      obtain ⟨o0, o1, o2, of, olt⟩ := E'.o.d3
      obtain ⟨k0, k1, k2, kf, klt⟩ := E'.img.d3
      have hlk : k < (trdTo j k).length := by simp [trdTo, HN.out]; exact hkN
      have c1 := E'.px.cell (i := k) (v := .int .u8 ((trdTo j k).getD k 0)) (by rw [List.getElem?_map, getD_some (d := 0) hlk]; rfl)
      have c2 := E'.px.froz k
      have c3 := E'.px.lt
      have k0' : X.drew.cell? ⟨w.heap.size, 0, none⟩ = some (.int .i64 W) := k0
      have k1' : X.drew.cell? ⟨w.heap.size, 1, none⟩ = some (.int .i64 H) := k1
      have k2' : X.drew.cell? ⟨w.heap.size, 2, none⟩ = some (.slice a np cp) := k2
      have o2' : X.drew.cell? ⟨bO, 2, none⟩ = some (.slice (some ⟨g, 0, none⟩) N N) := o2
      have klt' : w.heap.size < X.drew.heap.size := klt
      have olt' : bO < X.drew.heap.size := olt
      have hne1 : g ≠ w.heap.size := by have := E'.hg; omega
      have hne2 : g ≠ bO := fun e => E'.hne e.symm
      go_region_held3 (fun w' => w'.cell? ⟨w.heap.size, 0, none⟩ = some (.int .i64 W) ∧ w'.cell? ⟨w.heap.size, 1, none⟩ = some (.int .i64 H) ∧ w'.cell? ⟨w.heap.size, 2, none⟩ = some (.slice a np cp) ∧ w'.cell? ⟨bO, 2, none⟩ = some (.slice (some ⟨g, 0, none⟩) N N))
        (first | exact ⟨keep hbf k0' klt', keep hbf k1' klt', keep hbf k2' klt', keep hbf o2' olt'⟩ | exact ⟨k0', k1', k2', o2'⟩ | exact ⟨(World.cell?_setCell_far _ _ _ _ hne1).trans (keep hbf k0' klt'), (World.cell?_setCell_far _ _ _ _ hne1).trans (keep hbf k1' klt'), (World.cell?_setCell_far _ _ _ _ hne1).trans (keep hbf k2' klt'), (World.cell?_setCell_far _ _ _ _ hne2).trans (keep hbf o2' olt')⟩)
        ((go_at_call 54; refine (HP.out _ (HI.out.below E'.below.drew)).mono ?_; rintro e wf ⟨rfl, hbf⟩; have cg := keep (w := X.drew) hbf c1 c3; have fg := keepF (w := X.drew) hbf c2 c3; have glt := Nat.lt_of_lt_of_le c3 hbf.size))
      all_goals go_wp2_with fail
      all_goals
        refine ⟨⟨k + 1, by go_num, by omega, ?_⟩, by simp [intOf]; omega⟩
        have h9 := (E'.keep ((Below.refl X.heap.size X).drew.trans hbf)).set k (pixF W H px sx sy)
        rw [HSET.out] at h9
        exact h9
    · obtain rfl : k = N := by omega
      obtain ⟨r0, r1, r2, rf, rlt⟩ := E.res.d3
      have hB := E.below
      have hgg := E.hg
      have hL := E.px
      rw [show trdTo j k = j.2.2 by rw [← HN.out]; exact trdTo_all j] at hL
      rw [HJ.out.1] at o0
      rw [HJ.out.2] at o1
      go_wp2_with fail
      refine bodyPost_ret (v := .agg #[.int .i64 W, .int .i64 H, .slice (some ⟨g, 0, none⟩) k k]) (by simp [results, Tryz.results22, go_sem, r0, r1, r2, rf, rlt]) rfl ⟨g, ?_, by omega, ?_, (by repeat (first | (with_reducible exact Below.refl _ _) | (with_reducible assumption) | ((with_reducible refine Below.setCell ?_ ?_ _); rotate_left; (focus (first | omega | (simp; done) | (simp; omega)))) | (with_reducible refine Below.drew ?_) | (with_reducible refine below_drewN ?_ _) | ((with_reducible refine Below.alloc ?_ ?_ _); rotate_left; (focus (first | omega | (simp; done) | (simp; omega))))))⟩
      · rw [HN.out]
      · exact ((hL.set_other (by simp; omega) _).set_other (by simp; omega) _).set_other (by simp; omega) _

set_option maxRecDepth 100000 in
set_option maxHeartbeats 4000000 in
theorem turned_odd (W H : Nat) (a : Option Addr) (np cp : Nat) (px : List Int) (t : Nat) (w : World) (h : ImgOk w W H (.slice a np cp) px) (ht : t < 8) (hp : t % 2 = 1) :
    Calls Tryz.prog 22 #[.agg #[.int .i64 W, .int .i64 H, .slice a np cp], .int .i64 t] w (ImgRet H W (turnI (W, H, px) t).2.2 w) := by
  have hio := h.iok
  have h1 := h.w1
  have h2 := h.w2
  have h3 := h.h1
  have h4 := h.h2
  obtain ⟨j, hj⟩ : ∃ j, j = turnI (W, H, px) t := ⟨_, rfl⟩
  have hjo : IOk j := by rw [hj]; exact hio.turn t
  obtain ⟨N, hN⟩ : ∃ N, N = j.2.2.length := ⟨_, rfl⟩
  have hj12 : j.1 = H ∧ j.2.1 = W := by
    rw [hj]
    have h8 : t = 1 ∨ t = 3 ∨ t = 5 ∨ t = 7 := by omega
    rcases h8 with rfl | rfl | rfl | rfl <;> exact ⟨rfl, rfl⟩
  have hNW : W * H = N := by rw [hN, hjo.len, hj12.1, hj12.2, Nat.mul_comm]
  have hNb := hjo.bound
  rw [← hN] at hNb
  have hpx := fun n hn => turned_px hio (t := t) (n := n) ht hn
  rw [← hj] at hpx ⊢
  have HPX := Lib.hid hpx
  have HJO := Lib.hid hjo
  have HN := Lib.hid hN.symm
  have HI := Lib.hid h
  have HJ := Lib.hid hj12
  have hm : Int.tmod (t : Int) 2 = 1 := by rw [show Int.tmod (t : Int) 2 = ((t % 2 : Nat) : Int) from rfl, hp]; rfl
  clear hj hpx hjo hN h hio hj12 hp
  go_enter Tryz.func22, Tryz.ntmps22
  go_wp2_with fail
  generalize hW0 : World.alloc (World.alloc w _) _ = W0
  have K0 : Blk W0 w.heap.size #[.int .i64 W, .int .i64 H, .slice a np cp] 24 := by rw [← hW0]; exact (Blk.new _ _ _).alloc _
  have R0 : Blk W0 (w.heap.size + 1) #[.int .i64 0, .int .i64 0, .slice none 0 0] 24 := by rw [← hW0]; exact Blk.newAt _ _ (by simp)
  have hB0 : Below w.heap.size w W0 := by rw [← hW0]; exact (by repeat (first | (with_reducible exact Below.refl _ _) | (with_reducible assumption) | ((with_reducible refine Below.setCell ?_ ?_ _); rotate_left; (focus (first | omega | (simp; done) | (simp; omega)))) | (with_reducible refine Below.drew ?_) | (with_reducible refine below_drewN ?_ _) | ((with_reducible refine Below.alloc ?_ ?_ _); rotate_left; (focus (first | omega | (simp; done) | (simp; omega))))))
  clear hW0
  obtain ⟨k0, k1, k2, kf, klt⟩ := K0.d3
  go_wp2_with fail
  refine (white_any W H N W0 hNW (by omega) (by omega) (by omega) (by omega)).mono ?_
  rintro e w1 ⟨g, he, hg, hL, hb1⟩
  rw [List.length_replicate] at he
  subst he
  have hrl := R0.lt
  have hbs := hb1.size
  have hgl := hL.lt
  have K1 := K0.keep hb1 K0.lt
  have R1 := R0.keep hb1 R0.lt
  have hB1 := binto hB0 hb1
  have h1l : w.heap.size + 1 < w1.heap.size := by omega
  clear k0 k1 k2 kf klt K0 R0 hB0 hb1 hL
  obtain ⟨k0, k1, k2, kf, klt⟩ := K1.d3
  have klt1 : w.heap.size < w1.heap.size + 1 := by omega
  dsimp only
  go_wp2_with fail
  generalize hW2 : World.alloc w1 _ = W2
  have K2 : Blk W2 w.heap.size #[.int .i64 W, .int .i64 H, .slice a np cp] 24 := by rw [← hW2]; exact K1.alloc _
  have R2 : Blk W2 (w.heap.size + 1) #[.int .i64 0, .int .i64 0, .slice none 0 0] 24 := by rw [← hW2]; exact R1.alloc _
  have hB2 : Below w.heap.size w W2 := by rw [← hW2]; exact hB1.trans (below_allocT hB1.size _)
  have O2 : Blk W2 w1.heap.size #[.int .i64 W, .int .i64 H, .slice (some ⟨g, 0, none⟩) N N] 24 := by rw [← hW2]; exact Blk.new _ _ _
  clear hW2 K1 R1 hB1 k0 k1 k2 kf klt klt1
  refine (white_any H W N W2 (by rw [Nat.mul_comm]; exact hNW) (by omega) (by omega) (by omega) (by omega)).mono ?_
  rintro e w3 ⟨g3, he, hg3, hL3, hb3⟩
  rw [List.length_replicate] at he
  subst he
  have O3 := O2.keep hb3 O2.lt
  have hol := O2.lt
  have hB3 := binto hB2 hb3
  obtain ⟨q0, q1, q2, qf, qlt⟩ := O3.d3
  have E5 : TdEnv w #[.int .i64 W, .int .i64 H, .slice a np cp] j w1.heap.size g3 N (trdTo j 0) (((w3.setCell ⟨w1.heap.size, 0, none⟩ (.int .i64 H)).setCell ⟨w1.heap.size, 1, none⟩ (.int .i64 W)).setCell ⟨w1.heap.size, 2, none⟩ (.slice (some ⟨g3, 0, none⟩) N N)) := by
    refine ⟨(by repeat (first | (with_reducible exact Below.refl _ _) | (with_reducible assumption) | ((with_reducible refine Below.setCell ?_ ?_ _); rotate_left; (focus (first | omega | (simp; done) | (simp; omega)))) | (with_reducible refine Below.drew ?_) | (with_reducible refine below_drewN ?_ _) | ((with_reducible refine Below.alloc ?_ ?_ _); rotate_left; (focus (first | omega | (simp; done) | (simp; omega)))))), (K2.keep hb3 K2.lt).o3 (by omega), (R2.keep hb3 R2.lt).o3 (by omega), ?_, ?_, by omega, by omega, by omega⟩
    · rw [HJ.out.1, HJ.out.2]; exact O3.s3
    · rw [trdTo_zero, HN.out]
      exact ((hL3.set_other (by simp; omega) _).set_other (by simp; omega) _).set_other (by simp; omega) _
  clear K2 R2 hB2 O2 O3 hb3 hL3 hB3
  dsimp only
  go_wp2_with fail
  generalize hW5 : World.setCell (World.setCell (World.setCell w3 _ _) _ _) _ _ = W5 at E5 ⊢
  clear hW5 q0 q1 q2 qf qlt hol hg3 hrl hbs hgl hg h1l
  obtain ⟨bO, hbO⟩ : ∃ bO, bO = w1.heap.size := ⟨_, rfl⟩
  rw [← hbO] at E5 ⊢
  clear hbO
  obtain ⟨g, hgg⟩ : ∃ g, g = g3 := ⟨_, rfl⟩
  rw [← hgg] at E5 ⊢
  clear hgg
  go_loopw [6] (fun x wr => ∃ k : Nat, x = .int .i64 k ∧ k ≤ N ∧ TdEnv w #[.int .i64 W, .int .i64 H, .slice a np cp] j bO g N (trdTo j k) wr) (fun x _ => N - (intOf x).toNat)
  case atStart => exact ⟨0, rfl, by omega, E5⟩
  case round =>
    clear E5
    obtain ⟨k, rfl, hk, E⟩ := hrel
    obtain ⟨wb, rfl⟩ : ∃ wo : World, wo = wr := ⟨_, rfl⟩
    obtain ⟨o0, o1, o2, of, olt⟩ := E.o.d3
    by_cases hkN : k < N
    · have hd1 : decide ((k : Int) < (N : Int)) = true := by simp; omega
      have hd2 : (k : Int) < (N : Int) := by omega
      obtain ⟨k0, k1, k2, kf, klt⟩ := E.img.d3
      obtain ⟨sx, sy, hsrc, hsx, hsy, hpx⟩ := HPX.out k (by rw [HN.out]; exact hkN)
      obtain ⟨x, hx⟩ : ∃ x, x = k % j.1 := ⟨_, rfl⟩
      obtain ⟨y, hy⟩ : ∃ y, y = k / j.1 := ⟨_, rfl⟩
      rw [← hx, ← hy] at hsrc
      have hj1 : ¬ (j.1 : Int) = 0 := by have := HJO.out.w1; omega
      have hr1 : Int.tmod (k : Int) (j.1 : Int) = (x : Int) := by rw [hx]; rfl
      have hr2 : Int.tdiv (k : Int) (j.1 : Int) = (y : Int) := by rw [hy]; rfl
      have hxb : x < 640 := by rw [hx]; have := HJO.out.w1; have := HJO.out.w2; have := Nat.mod_lt k (show 0 < j.1 by omega); omega
      have hyb : y ≤ 640 := by
        have := (qparts (W := j.1) (H := j.2.1) (n := k) (by rw [← HJO.out.len, HN.out]; exact hkN)).2.2.1
        have := HJO.out.h2
        omega
      have hr3 : IntKind.i64.wrap (x : Int) = x := IntWalk.i64_in _ (by omega)
      have hr4 : IntKind.i64.wrap (y : Int) = y := IntWalk.i64_in _ (by omega)
      have HSRC := Lib.hid (fun wz => source_q hsrc wz ⟨by omega, by omega⟩ ⟨by omega, by omega⟩ ⟨by omega, by omega⟩ ⟨by omega, by omega⟩ ⟨by omega, by omega⟩)
      have HP := Lib.hid (fun wz hz => pixel_any W H sx sy (.slice a np cp) px wz hz)
      have hset := trdTo_succ (j := j) (k := k) (by rw [HN.out]; exact hkN)
      rw [hpx] at hset
      have HSET := Lib.hid hset
      clear hset hsrc hpx hx hy
      go_wp2_with fail
      go_quiet ((go_at_call 53; exact Calls.quiet_of_same (HSRC.out _)))
      go_wp2_with fail
      generalize hWq : World.drewN wb _ = X
      have hbq : Below wb.heap.size wb X := by rw [← hWq]; exact below_drewN (Below.refl _ _) _
      have E' := E.keep hbq
      clear hWq hbq E o0 o1 o2 of olt k0 k1 k2 kf klt
      obtain ⟨o0, o1, o2, of, olt⟩ := E'.o.d3
      obtain ⟨k0, k1, k2, kf, klt⟩ := E'.img.d3
      have hlk : k < (trdTo j k).length := by simp [trdTo, HN.out]; exact hkN
      have c1 := E'.px.cell (i := k) (v := .int .u8 ((trdTo j k).getD k 0)) (by rw [List.getElem?_map, getD_some (d := 0) hlk]; rfl)
      have c2 := E'.px.froz k
      have c3 := E'.px.lt
      have k0' : X.drew.cell? ⟨w.heap.size, 0, none⟩ = some (.int .i64 W) := k0
      have k1' : X.drew.cell? ⟨w.heap.size, 1, none⟩ = some (.int .i64 H) := k1
      have k2' : X.drew.cell? ⟨w.heap.size, 2, none⟩ = some (.slice a np cp) := k2
      have o2' : X.drew.cell? ⟨bO, 2, none⟩ = some (.slice (some ⟨g, 0, none⟩) N N) := o2
      have klt' : w.heap.size < X.drew.heap.size := klt
      have olt' : bO < X.drew.heap.size := olt
      have hne1 : g ≠ w.heap.size := by have := E'.hg; omega
      have hne2 : g ≠ bO := fun e => E'.hne e.symm
      go_region_held3 (fun w' => w'.cell? ⟨w.heap.size, 0, none⟩ = some (.int .i64 W) ∧ w'.cell? ⟨w.heap.size, 1, none⟩ = some (.int .i64 H) ∧ w'.cell? ⟨w.heap.size, 2, none⟩ = some (.slice a np cp) ∧ w'.cell? ⟨bO, 2, none⟩ = some (.slice (some ⟨g, 0, none⟩) N N))
        (first | exact ⟨keep hbf k0' klt', keep hbf k1' klt', keep hbf k2' klt', keep hbf o2' olt'⟩ | exact ⟨k0', k1', k2', o2'⟩ | exact ⟨(World.cell?_setCell_far _ _ _ _ hne1).trans (keep hbf k0' klt'), (World.cell?_setCell_far _ _ _ _ hne1).trans (keep hbf k1' klt'), (World.cell?_setCell_far _ _ _ _ hne1).trans (keep hbf k2' klt'), (World.cell?_setCell_far _ _ _ _ hne2).trans (keep hbf o2' olt')⟩)
        ((go_at_call 54; refine (HP.out _ (HI.out.below E'.below.drew)).mono ?_; rintro e wf ⟨rfl, hbf⟩; have cg := keep (w := X.drew) hbf c1 c3; have fg := keepF (w := X.drew) hbf c2 c3; have glt := Nat.lt_of_lt_of_le c3 hbf.size))
      all_goals go_wp2_with fail
      all_goals
        refine ⟨⟨k + 1, by go_num, by omega, ?_⟩, by simp [intOf]; omega⟩
        have h9 := (E'.keep ((Below.refl X.heap.size X).drew.trans hbf)).set k (pixF W H px sx sy)
        rw [HSET.out] at h9
        exact h9
    · obtain rfl : k = N := by omega
      obtain ⟨r0, r1, r2, rf, rlt⟩ := E.res.d3
      have hB := E.below
      have hgg := E.hg
      have hL := E.px
      rw [show trdTo j k = j.2.2 by rw [← HN.out]; exact trdTo_all j] at hL
      rw [HJ.out.1] at o0
      rw [HJ.out.2] at o1
      go_wp2_with fail
      refine bodyPost_ret (v := .agg #[.int .i64 H, .int .i64 W, .slice (some ⟨g, 0, none⟩) k k]) (by simp [results, Tryz.results22, go_sem, r0, r1, r2, rf, rlt]) rfl ⟨g, ?_, by omega, ?_, (by repeat (first | (with_reducible exact Below.refl _ _) | (with_reducible assumption) | ((with_reducible refine Below.setCell ?_ ?_ _); rotate_left; (focus (first | omega | (simp; done) | (simp; omega)))) | (with_reducible refine Below.drew ?_) | (with_reducible refine below_drewN ?_ _) | ((with_reducible refine Below.alloc ?_ ?_ _); rotate_left; (focus (first | omega | (simp; done) | (simp; omega))))))⟩
      · rw [HN.out]
      · exact ((hL.set_other (by simp; omega) _).set_other (by simp; omega) _).set_other (by simp; omega) _

end Go.Proofs.YtnfgedbcfclnmaaGreat

namespace Go.Proofs.YtnfgedbcfclnmaaGreat
open Go.RowKit

def bList (px : List Int) : List UInt8 := px.map fun n => UInt8.ofNat n.toNat
theorem bList_inj : ∀ {px qx : List Int}, (∀ n ∈ px, 0 ≤ n ∧ n ≤ 255) → (∀ n ∈ qx, 0 ≤ n ∧ n ≤ 255) → (bList px = bList qx ↔ px = qx)
  | [], [], _, _ => by simp [bList]
  | [], _ :: _, _, _ => by simp [bList]
  | _ :: _, [], _, _ => by simp [bList]
  | a :: px, b :: qx, h, k => by
    have ih := bList_inj (px := px) (qx := qx) (fun n hn => h n (by simp [hn])) (fun n hn => k n (by simp [hn]))
    have ha := h a (by simp)
    have hb := k b (by simp)
    unfold bList at *
    simp only [List.map_cons, List.cons.injEq]
    rw [ih]
    have : UInt8.ofNat a.toNat = UInt8.ofNat b.toNat ↔ a = b := by
      constructor
      · intro e
        have := congrArg UInt8.toNat e
        simp at this
        omega
      · rintro rfl; rfl
    rw [this]

theorem conv_bytes {w : World} {b off n cap : Nat} {px : List Int} (hn : n = px.length) (hb : ∀ n ∈ px, 0 ≤ n ∧ n ≤ 255) (hc : ∀ i x, px[i]? = some x → w.cell? ⟨b, off + i, none⟩ = some (.int .u8 x)) :
    (convert 22 9 (.slice (some ⟨b, off, none⟩) n cap)).run Tryz.prog w = .ok (.string ⟨(bList px).toArray⟩) w := by
  have hl : (bList px).length = px.length := by simp [bList]
  rw [hn, ← hl]
  refine run_convert_bytes_back w _ _ 5 _ _ _ Tryz.underlying22 Tryz.underlying5 Tryz.underlying9 fun j hj => ?_
  have hj' : j < px.length := by omega
  rw [Addr.add_lit, hc j _ (List.getElem?_eq_getElem hj')]
  have hx := hb _ (List.getElem_mem hj')
  simp [bList]
  omega

set_option maxRecDepth 100000 in
set_option maxHeartbeats 1000000 in
theorem same_any {u v : Value} {px qx : List Int} (w : World) (hu : Reads (Value.int .u8) w u px) (hv : Reads (Value.int .u8) w v qx) (hp : ∀ n ∈ px, 0 ≤ n ∧ n ≤ 255) (hq : ∀ n ∈ qx, 0 ≤ n ∧ n ≤ 255) (hp1 : 0 < px.length) (hq1 : 0 < qx.length) :
    Calls Tryz.prog 81 #[u, v] w fun e w' => e = .returned (.bool (decide (px = qx))) ∧ w = w' := by
  obtain ⟨b, off, cap, rfl, _, _, _, hc⟩ := hu.some hp1
  obtain ⟨b', off', cap', rfl, _, _, _, hc'⟩ := hv.some hq1
  have h1 := conv_bytes (cap := cap) rfl hp hc
  have h2 := conv_bytes (cap := cap') rfl hq hc'
  have hinj := bList_inj hp hq
  have HINJ := Lib.hid hinj
  clear hinj hc hc' hu hv hp hq
  generalize bList px = s1 at *
  generalize bList qx = s2 at *
  go_enter Tryz.func81, Tryz.ntmps81
  go_wp2_with fail
  go_ret
  refine ⟨ret_bool ?_, rfl⟩
  rw [Bool.eq_iff_iff]
  simp [HINJ.out]

end Go.Proofs.YtnfgedbcfclnmaaGreat

namespace Go.Proofs.YtnfgedbcfclnmaaGreat
open Go.RowKit

set_option maxRecDepth 100000 in
set_option maxHeartbeats 1000000 in
theorem sameImage_any (i j : Img) (pv qv : Value) (w : World) (hi : IOk i) (hj : IOk j) (hu : Reads (Value.int .u8) w pv i.2.2) (hv : Reads (Value.int .u8) w qv j.2.2) :
    Calls Tryz.prog 55 #[.agg #[.int .i64 i.1, .int .i64 i.2.1, pv], .agg #[.int .i64 j.1, .int .i64 j.2.1, qv]] w fun e w' => e = .returned (.bool (decide (i = j))) ∧ Below w.heap.size w w' := by
  have hb1 := hi.bound
  have hb2 := hj.bound
  have HS := Lib.hid (fun wz hz hz' => same_any (u := pv) (v := qv) (px := i.2.2) (qx := j.2.2) wz hz hz' hi.by1 hj.by1 (by omega) (by omega))
  have HU := Lib.hid hu
  have HV := Lib.hid hv
  obtain ⟨pa, pc, rfl, -⟩ := id hu
  obtain ⟨qa, qc, rfl, -⟩ := id hv
  obtain ⟨W, H, px⟩ := i
  obtain ⟨W', H', qx⟩ := j
  dsimp only at *
  clear hu hv hi hj hb1 hb2
  by_cases hW : W = W'
  · subst hW
    by_cases hH : H = H'
    · subst hH
      have hres : decide (((W, H, px) : Img) = (W, H, qx)) = decide (px = qx) := by simp
      rw [hres]
      clear hres
      generalize decide (px = qx) = x at *
      go_enter Tryz.func55, Tryz.ntmps55
      go_wp2_with fail
      have hB : Below w.heap.size w (World.alloc (World.alloc w (.cells #[.int .i64 W, .int .i64 H, .slice pa px.length pc] 24)) (.cells #[.int .i64 W, .int .i64 H, .slice qa qx.length qc] 24)) := (by repeat (first | (with_reducible exact Below.refl _ _) | (with_reducible assumption) | ((with_reducible refine Below.setCell ?_ ?_ _); rotate_left; (focus (first | omega | (simp; done) | (simp; omega)))) | (with_reducible refine Below.drew ?_) | (with_reducible refine below_drewN ?_ _) | ((with_reducible refine Below.alloc ?_ ?_ _); rotate_left; (focus (first | omega | (simp; done) | (simp; omega))))))
      refine (HS.out _ (HU.out.below hB) (HV.out.below hB)).mono ?_
      rintro e w1 ⟨rfl, rfl⟩
      dsimp only
      go_wp2_with fail
      go_ret
      exact ⟨rfl, hB⟩
    · have hres : decide (((W, H, px) : Img) = (W, H', qx)) = false := by simp [hH]
      rw [hres]
      have hHB : ((H : Int) == (H' : Int)) = false := by simp; omega
      clear hres hH
      go_enter Tryz.func55, Tryz.ntmps55
      go_wp2_with fail
      go_ret
      exact ⟨rfl, (by repeat (first | (with_reducible exact Below.refl _ _) | (with_reducible assumption) | ((with_reducible refine Below.setCell ?_ ?_ _); rotate_left; (focus (first | omega | (simp; done) | (simp; omega)))) | (with_reducible refine Below.drew ?_) | (with_reducible refine below_drewN ?_ _) | ((with_reducible refine Below.alloc ?_ ?_ _); rotate_left; (focus (first | omega | (simp; done) | (simp; omega))))))⟩
  · have hres : decide (((W, H, px) : Img) = (W', H', qx)) = false := by simp [hW]
    rw [hres]
    have hWB : ((W : Int) == (W' : Int)) = false := by simp; omega
    clear hres hW
    go_enter Tryz.func55, Tryz.ntmps55
    go_wp2_with fail
    go_ret
    exact ⟨rfl, (by repeat (first | (with_reducible exact Below.refl _ _) | (with_reducible assumption) | ((with_reducible refine Below.setCell ?_ ?_ _); rotate_left; (focus (first | omega | (simp; done) | (simp; omega)))) | (with_reducible refine Below.drew ?_) | (with_reducible refine below_drewN ?_ _) | ((with_reducible refine Below.alloc ?_ ?_ _); rotate_left; (focus (first | omega | (simp; done) | (simp; omega))))))⟩

end Go.Proofs.YtnfgedbcfclnmaaGreat

namespace Go.Proofs.YtnfgedbcfclnmaaGreat
open Go.RowKit

set_option maxHeartbeats 1000000 in
theorem marked_any (w : World) : Calls Tryz.prog 56 #[] w (ImgRet 2 3 [1, 2, 3, 4, 5, 6] w) := by
  go_enter Tryz.func56, Tryz.ntmps56
  go_wp2_with fail
  generalize hW0 : World.alloc (World.alloc w _) _ = W0
  have R0 : Blk W0 w.heap.size #[.int .i64 2, .int .i64 3, .slice (some ⟨w.heap.size + 1, 0, none⟩) 6 6] 24 := by rw [← hW0]; exact (Blk.new _ _ _).alloc _
  have L0 : LBlk W0 (w.heap.size + 1) [.int .u8 1, .int .u8 2, .int .u8 3, .int .u8 4, .int .u8 5, .int .u8 6] 5 := by rw [← hW0]; exact Blk.newAt _ _ (by simp)
  have hB : Below w.heap.size w W0 := by rw [← hW0]; exact (by repeat (first | (with_reducible exact Below.refl _ _) | (with_reducible assumption) | ((with_reducible refine Below.setCell ?_ ?_ _); rotate_left; (focus (first | omega | (simp; done) | (simp; omega)))) | (with_reducible refine Below.drew ?_) | (with_reducible refine below_drewN ?_ _) | ((with_reducible refine Below.alloc ?_ ?_ _); rotate_left; (focus (first | omega | (simp; done) | (simp; omega))))))
  obtain ⟨r0, r1, r2, rf, rlt⟩ := R0.d3
  exact bodyPost_ret (v := .agg #[.int .i64 2, .int .i64 3, .slice (some ⟨w.heap.size + 1, 0, none⟩) 6 6]) (by simp [results, Tryz.results56, go_sem, r0, r1, r2, rf, rlt]) rfl ⟨w.heap.size + 1, rfl, by omega, L0, hB⟩

end Go.Proofs.YtnfgedbcfclnmaaGreat

namespace Go.Proofs.YtnfgedbcfclnmaaGreat
open Go.RowKit

theorem turned_all (i : Img) {w : World} {a : Option Addr} {np cp : Nat} (t : Nat) (hi : IOk i) (hr : Reads (Value.int .u8) w (.slice a np cp) i.2.2) (ht : t < 8) :
    Calls Tryz.prog 22 #[.agg #[.int .i64 i.1, .int .i64 i.2.1, .slice a np cp], .int .i64 t] w (ImgRet (turnI i t).1 (turnI i t).2.1 (turnI i t).2.2 w) := by
  obtain ⟨W, H, px⟩ := i
  have hI : ImgOk w W H (.slice a np cp) px := hi.img hr
  by_cases hp : t % 2 = 0
  · have h8 : (turnI (W, H, px) t).1 = W ∧ (turnI (W, H, px) t).2.1 = H := by
      have : t = 0 ∨ t = 2 ∨ t = 4 ∨ t = 6 := by omega
      rcases this with rfl | rfl | rfl | rfl <;> exact ⟨rfl, rfl⟩
    rw [h8.1, h8.2]
    exact turned_even W H a np cp px t w hI ht hp
  · have h8 : (turnI (W, H, px) t).1 = H ∧ (turnI (W, H, px) t).2.1 = W := by
      have : t = 1 ∨ t = 3 ∨ t = 5 ∨ t = 7 := by omega
      rcases this with rfl | rfl | rfl | rfl <;> exact ⟨rfl, rfl⟩
    rw [h8.1, h8.2]
    exact turned_odd W H a np cp px t w hI ht (by omega)

set_option maxRecDepth 100000 in
set_option maxHeartbeats 2000000 in
theorem undone_any (t : Nat) (w : World) (ht : t < 8) : Calls Tryz.prog 23 #[.int .i64 t] w fun e w' => e = .returned (.int .i64 (invF t)) ∧ Below w.heap.size w w' := by
  have hmk : IOk (2, 3, [1, 2, 3, 4, 5, 6]) := ⟨by decide, by decide, by decide, by decide, rfl, by simp⟩
  have HMK := Lib.hid hmk
  have hir := inv_rng (t := (t : Int)) ⟨by omega, by omega⟩
  have HUM := Lib.hid (undone_marked t ht)
  clear hmk
  go_enter Tryz.func23, Tryz.ntmps23
  go_wp2_with fail
  go_loopw [3] (fun x wr => ∃ u : Nat, x = .int .i64 u ∧ (u : Int) ≤ invF t ∧ Below w.heap.size w wr) (fun x _ => 8 - (intOf x).toNat)
  case atStart => exact ⟨0, rfl, by omega, Below.refl _ _⟩
  case round =>
    obtain ⟨u, rfl, hu, hB⟩ := hrel
    obtain ⟨wb, rfl⟩ : ∃ wo : World, wo = wr := ⟨_, rfl⟩
    have hd1 : decide ((u : Int) < 8) = true := by simp; omega
    have hum := HUM.out u (by omega)
    go_wp2_with fail
    refine (marked_any wb).mono ?_
    rintro e w1 ⟨g1, rfl, -, hL1, hb1⟩
    dsimp only
    go_wp2_with fail
    refine (turned_all (2, 3, [1, 2, 3, 4, 5, 6]) t HMK.out (bytes_reads hL1 (by decide)) ht).mono ?_
    rintro e w2 ⟨g2, rfl, -, hL2, hb2⟩
    dsimp only
    go_wp2_with fail
    have hj1 := HMK.out.turn t
    refine (turned_all _ u hj1 (bytes_reads hL2 (Nat.le_trans hj1.bound.2 (by decide))) (by omega)).mono ?_
    rintro e w3 ⟨g3, rfl, -, hL3, hb3⟩
    dsimp only
    go_wp2_with fail
    refine (marked_any w3).mono ?_
    rintro e w4 ⟨g4, rfl, -, hL4, hb4⟩
    have hj2 := hj1.turn u
    have hL3' := hL3.keep hb4 hL3.lt
    dsimp only
    go_wp2_with fail
    refine (sameImage_any _ (2, 3, [1, 2, 3, 4, 5, 6]) _ _ w4 hj2 HMK.out (bytes_reads hL3' (Nat.le_trans hj2.bound.2 (by decide))) (bytes_reads hL4 (by decide))).mono ?_
    rintro e w5 ⟨rfl, hb5⟩
    have hB5 := binto (binto (binto (binto (binto hB hb1) hb2) hb3) hb4) hb5
    clear hL1 hL2 hL3 hL4 hL3' hj1 hj2 hb1 hb2 hb3 hb4 hb5
    by_cases he : (u : Int) = invF t
    · rw [decide_eq_true (hum.2 he)]
      dsimp only
      go_wp2_with fail
      go_ret
      exact ⟨by simp [he], hB5⟩
    · rw [decide_eq_false (fun h => he (hum.1 h))]
      clear hum
      dsimp only
      go_wp2_with fail
      go_roundw
      case rel => exact ⟨u + 1, by go_num, by omega, hB5⟩
      case measure => simp [intOf]; omega

end Go.Proofs.YtnfgedbcfclnmaaGreat

namespace Go.Proofs.YtnfgedbcfclnmaaGreat
open Go.RowKit

abbrev CellFn := Nat → Int × Int
def upd (f : CellFn) (i : Nat) (v : Int × Int) : CellFn := fun n => if n = i then v else f n
def itU (idx : Nat → Nat) (v : Nat → Int × Int) (f : CellFn) : Nat → CellFn
  | 0 => f
  | k + 1 => upd (itU idx v f k) (idx k) (v k)

theorem itU_eq {idx : Nat → Nat} {v : Nat → Int × Int} {f : CellFn} {K : Nat} (hit : Nat → Prop) [DecidablePred hit] (dec : Nat → Nat)
    (h1 : ∀ j, j < K → hit (idx j) ∧ dec (idx j) = j) (h2 : ∀ n, hit n → dec n < K ∧ idx (dec n) = n) (n : Nat) :
    itU idx v f K n = if hit n then v (dec n) else f n := by
  have key : ∀ k, k ≤ K → itU idx v f k n = if hit n ∧ dec n < k then v (dec n) else f n := by
    intro k
    induction k with
    | zero => intro _; simp [itU]
    | succ k ih =>
      intro hk
      rw [itU, upd, ih (by omega)]
      by_cases e : n = idx k
      · obtain ⟨a, b⟩ := h1 k (by omega)
        rw [if_pos e, e, b, if_pos ⟨a, by omega⟩]
      · rw [if_neg e]
        by_cases g : hit n
        · have hne : dec n ≠ k := fun hd => e (by rw [← hd]; exact (h2 n g).2.symm)
          by_cases l : dec n < k
          · rw [if_pos ⟨g, l⟩, if_pos ⟨g, by omega⟩]
          · rw [if_neg (fun x => l x.2), if_neg (fun x => l (by have := x.2; omega))]
        · rw [if_neg (fun x => g x.1), if_neg (fun x => g x.1)]
  rw [key K (Nat.le_refl _)]
  by_cases g : hit n
  · rw [if_pos g, if_pos ⟨g, (h2 n g).1⟩]
  · rw [if_neg g, if_neg (fun x => g x.1)]

def pi1 (j : Nat) : Nat := j
def pv1 (_ : Nat) : Int × Int := (1, 1)
def pi2 (j : Nat) : Nat := 58 * (3 + j / 52) + (3 + j % 52)
def pv2 (_ : Nat) : Int × Int := (1, 0)
def pi3 (j : Nat) : Nat := if j % 2 = 0 then 58 * (5 + j / 2) + 4 else 58 * (5 + j / 2) + 53
def pv3 (j : Nat) : Int × Int := if j % 2 = 0 then (2, (((j / 2 + 1) % 2 : Nat) : Int)) else (2, 1 - ((j / 2 % 4 / 2 : Nat) : Int))
def pi4 (R j : Nat) : Nat := if j % 2 = 0 then 236 + j / 2 else 58 * (R - 5) + 4 + j / 2
def pv4 (j : Nat) : Int × Int := if j % 2 = 0 then (2, (((j / 2 + 1) % 2 : Nat) : Int)) else (2, 1 - ((j / 2 % 4 / 2 : Nat) : Int))
def pi5 (R j : Nat) : Nat := if j % 2 = 0 then 58 * (5 + j / 2 / 48) + 5 + j / 2 % 48 else 58 * (R - 10 + j / 2 / 48) + 5 + j / 2 % 48
def pv5 (j : Nat) : Int × Int := if j % 2 = 0 then (4, ((j / 2 : Nat) : Int)) else (4, 240 + ((j / 2 : Nat) : Int))
def pi6 (j : Nat) : Nat := 585 + j
def pv6 (L j : Nat) : Int × Int := (3, ((j % L : Nat) : Int))
def pi7 (h j : Nat) : Nat := 58 * (11 + h * (j / (2 * h) / 24) + j % (2 * h) / 2) + (5 + 2 * (j / (2 * h) % 24) + j % (2 * h) % 2)
def pv7 (L h j : Nat) : Int × Int := (5, 8 * ((j / (2 * h) : Nat) : Int) + ((j % (2 * h) * L / 2 : Nat) : Int))

def pf0 : CellFn := fun _ => (0, 0)
def pf1 (L : Nat) : CellFn := itU pi1 pv1 pf0 (rowsN L * 58)
def pf2 (L : Nat) : CellFn := itU pi2 pv2 (pf1 L) ((rowsN L - 6) * 52)
def pf3 (L : Nat) : CellFn := itU pi3 pv3 (pf2 L) (2 * (rowsN L - 10))
def pf4 (L : Nat) : CellFn := itU (pi4 (rowsN L)) pv4 (pf3 L) 100
def pf5 (L : Nat) : CellFn := itU (pi5 (rowsN L)) pv5 (pf4 L) 480
def pf6 (L : Nat) : CellFn := itU pi6 (pv6 L) (pf5 L) 48
def pf7 (L : Nat) : CellFn := itU (pi7 (8 / L)) (pv7 L (8 / L)) (pf6 L) (384 * (2 * (8 / L)))

theorem pf1_eq (L n : Nat) : pf1 L n = if n < rowsN L * 58 then (1, 1) else (0, 0) := by
  rw [pf1, itU_eq (idx := pi1) (fun n => n < rowsN L * 58) (fun n => n) (fun j hj => ⟨hj, rfl⟩) (fun n h => ⟨h, rfl⟩)]
  rfl
theorem pf2_eq (L n : Nat) : pf2 L n = if 3 ≤ n / 58 ∧ n / 58 < rowsN L - 3 ∧ 3 ≤ n % 58 ∧ n % 58 < 55 then (1, 0) else pf1 L n := by
  have hR : rowsN L = 85 ∨ rowsN L = 53 := by unfold rowsN; split <;> simp
  rw [pf2, itU_eq (fun n => 3 ≤ n / 58 ∧ n / 58 < rowsN L - 3 ∧ 3 ≤ n % 58 ∧ n % 58 < 55) (fun n => (n / 58 - 3) * 52 + (n % 58 - 3))]
  · simp [pv2]
  · intro j hj
    simp only [pi2]
    rcases hR with hR | hR <;> rw [hR] at hj ⊢ <;> omega
  · intro n h
    simp only [pi2] at h ⊢
    rcases hR with hR | hR <;> rw [hR] at h ⊢ <;> omega
theorem pf3_eq (L n : Nat) : pf3 L n = if 5 ≤ n / 58 ∧ n / 58 < rowsN L - 5 ∧ (n % 58 = 4 ∨ n % 58 = 53) then (if n % 58 = 4 then (2, (((n / 58 - 5 + 1) % 2 : Nat) : Int)) else (2, 1 - (((n / 58 - 5) % 4 / 2 : Nat) : Int))) else pf2 L n := by
  have hR : rowsN L = 85 ∨ rowsN L = 53 := by unfold rowsN; split <;> simp
  rw [pf3, itU_eq (fun n => 5 ≤ n / 58 ∧ n / 58 < rowsN L - 5 ∧ (n % 58 = 4 ∨ n % 58 = 53)) (fun n => 2 * (n / 58 - 5) + if n % 58 = 4 then 0 else 1)]
  · by_cases h : 5 ≤ n / 58 ∧ n / 58 < rowsN L - 5 ∧ (n % 58 = 4 ∨ n % 58 = 53)
    · rw [if_pos h, if_pos h]
      by_cases g : n % 58 = 4
      · rw [if_pos g, if_pos g, pv3, if_pos (by omega)]
        congr 3; omega
      · rw [if_neg g, if_neg g, pv3, if_neg (by omega)]
        congr 4; omega
    · rw [if_neg h, if_neg h]
  · intro j hj
    simp only [pi3]
    split <;> (refine ⟨by omega, ?_⟩; split <;> omega)
  · intro n h
    by_cases g : n % 58 = 4
    · rw [if_pos g, pi3, if_pos (by omega)]; omega
    · rw [if_neg g, pi3, if_neg (by omega)]; omega
theorem pf4_eq (L n : Nat) : pf4 L n = if 4 ≤ n % 58 ∧ n % 58 < 54 ∧ (n / 58 = 4 ∨ n / 58 = rowsN L - 5) then (if n / 58 = 4 then (2, (((n % 58 - 4 + 1) % 2 : Nat) : Int)) else (2, 1 - (((n % 58 - 4) % 4 / 2 : Nat) : Int))) else pf3 L n := by
  have hR : rowsN L = 85 ∨ rowsN L = 53 := by unfold rowsN; split <;> simp
  rw [pf4, itU_eq (fun n => 4 ≤ n % 58 ∧ n % 58 < 54 ∧ (n / 58 = 4 ∨ n / 58 = rowsN L - 5)) (fun n => 2 * (n % 58 - 4) + if n / 58 = 4 then 0 else 1)]
  · by_cases h : 4 ≤ n % 58 ∧ n % 58 < 54 ∧ (n / 58 = 4 ∨ n / 58 = rowsN L - 5)
    · rw [if_pos h, if_pos h]
      by_cases g : n / 58 = 4
      · rw [if_pos g, if_pos g, pv4, if_pos (by omega)]
        congr 3; omega
      · rw [if_neg g, if_neg g, pv4, if_neg (by omega)]
        congr 4; omega
    · rw [if_neg h, if_neg h]
  · intro j hj
    simp only [pi4]
    split <;> (refine ⟨by omega, ?_⟩; split <;> omega)
  · intro n h
    by_cases g : n / 58 = 4
    · rw [if_pos g, pi4, if_pos (by omega)]; omega
    · rw [if_neg g, pi4, if_neg (by omega)]; omega
theorem pf5_eq (L n : Nat) : pf5 L n = if 5 ≤ n % 58 ∧ n % 58 < 53 ∧ (5 ≤ n / 58 ∧ n / 58 < 10 ∨ rowsN L - 10 ≤ n / 58 ∧ n / 58 < rowsN L - 5) then (if n / 58 < 10 then (4, (((n / 58 - 5) * 48 + (n % 58 - 5) : Nat) : Int)) else (4, 240 + (((n / 58 - (rowsN L - 10)) * 48 + (n % 58 - 5) : Nat) : Int))) else pf4 L n := by
  have hR : rowsN L = 85 ∨ rowsN L = 53 := by unfold rowsN; split <;> simp
  rw [pf5, itU_eq (fun n => 5 ≤ n % 58 ∧ n % 58 < 53 ∧ (5 ≤ n / 58 ∧ n / 58 < 10 ∨ rowsN L - 10 ≤ n / 58 ∧ n / 58 < rowsN L - 5)) (fun n => if n / 58 < 10 then 2 * ((n / 58 - 5) * 48 + (n % 58 - 5)) else 2 * ((n / 58 - (rowsN L - 10)) * 48 + (n % 58 - 5)) + 1)]
  · by_cases h : 5 ≤ n % 58 ∧ n % 58 < 53 ∧ (5 ≤ n / 58 ∧ n / 58 < 10 ∨ rowsN L - 10 ≤ n / 58 ∧ n / 58 < rowsN L - 5)
    · rw [if_pos h, if_pos h]
      by_cases g : n / 58 < 10
      · rw [if_pos g, if_pos g, pv5, if_pos (by omega)]
        congr 2; omega
      · rw [if_neg g, if_neg g, pv5, if_neg (by omega)]
        congr 3; omega
    · rw [if_neg h, if_neg h]
  · intro j hj
    simp only [pi5]
    rcases hR with hR | hR <;> rw [hR] <;> (split <;> (refine ⟨by omega, ?_⟩; split <;> omega))
  · intro n h
    rcases hR with hR | hR <;> rw [hR] at h ⊢
    · by_cases g : n / 58 < 10
      · rw [if_pos g, pi5, if_pos (by omega)]; omega
      · rw [if_neg g, pi5, if_neg (by omega)]; omega
    · by_cases g : n / 58 < 10
      · rw [if_pos g, pi5, if_pos (by omega)]; omega
      · rw [if_neg g, pi5, if_neg (by omega)]; omega
theorem pf6_eq (L n : Nat) : pf6 L n = if n / 58 = 10 ∧ 5 ≤ n % 58 ∧ n % 58 < 53 then (3, (((n % 58 - 5) % L : Nat) : Int)) else pf5 L n := by
  rw [pf6, itU_eq (fun n => n / 58 = 10 ∧ 5 ≤ n % 58 ∧ n % 58 < 53) (fun n => n % 58 - 5)]
  · simp only [pv6]
  · intro j hj
    simp only [pi6]
    omega
  · intro n h
    simp only [pi6] at h ⊢
    omega
theorem pf7_eq2 (n : Nat) : pf7 2 n = if 11 ≤ n / 58 ∧ n / 58 < 75 ∧ 5 ≤ n % 58 ∧ n % 58 < 53 then (5, 8 * (((n / 58 - 11) / 4 * 24 + (n % 58 - 5) / 2 : Nat) : Int) + (((n / 58 - 11) % 4 * 2 + (n % 58 - 5) % 2 : Nat) : Int)) else pf6 2 n := by
  rw [pf7, itU_eq (fun n => 11 ≤ n / 58 ∧ n / 58 < 75 ∧ 5 ≤ n % 58 ∧ n % 58 < 53) (fun n => ((n / 58 - 11) / 4 * 24 + (n % 58 - 5) / 2) * 8 + ((n / 58 - 11) % 4 * 2 + (n % 58 - 5) % 2))]
  · simp only [pv7, show 8 / 2 = 4 from rfl, show 2 * 4 = 8 from rfl]
    by_cases h : 11 ≤ n / 58 ∧ n / 58 < 75 ∧ 5 ≤ n % 58 ∧ n % 58 < 53
    · rw [if_pos h, if_pos h]
      congr 1; omega
    · rw [if_neg h, if_neg h]
  · intro j hj
    simp only [pi7, show 8 / 2 = 4 from rfl, show 2 * 4 = 8 from rfl] at hj ⊢
    obtain ⟨r, hr⟩ : ∃ r, r = 11 + 4 * (j / 8 / 24) + j % 8 / 2 := ⟨_, rfl⟩
    obtain ⟨c, hc⟩ : ∃ c, c = 5 + 2 * (j / 8 % 24) + j % 8 % 2 := ⟨_, rfl⟩
    rw [← hr, ← hc]
    have e1 : (58 * r + c) / 58 = r := by omega
    have e2 : (58 * r + c) % 58 = c := by omega
    rw [e1, e2]
    have e3 : (r - 11) / 4 = j / 8 / 24 := by omega
    have e4 : (r - 11) % 4 = j % 8 / 2 := by omega
    have e5 : (c - 5) / 2 = j / 8 % 24 := by omega
    have e6 : (c - 5) % 2 = j % 8 % 2 := by omega
    rw [e3, e4, e5, e6]
    omega
  · intro n h
    simp only [pi7, show 8 / 2 = 4 from rfl, show 2 * 4 = 8 from rfl] at h ⊢
    omega
theorem pf7_eq4 (n : Nat) : pf7 4 n = if 11 ≤ n / 58 ∧ n / 58 < 43 ∧ 5 ≤ n % 58 ∧ n % 58 < 53 then (5, 8 * (((n / 58 - 11) / 2 * 24 + (n % 58 - 5) / 2 : Nat) : Int) + ((2 * ((n / 58 - 11) % 2 * 2 + (n % 58 - 5) % 2) : Nat) : Int)) else pf6 4 n := by
  rw [pf7, itU_eq (fun n => 11 ≤ n / 58 ∧ n / 58 < 43 ∧ 5 ≤ n % 58 ∧ n % 58 < 53) (fun n => ((n / 58 - 11) / 2 * 24 + (n % 58 - 5) / 2) * 4 + ((n / 58 - 11) % 2 * 2 + (n % 58 - 5) % 2))]
  · simp only [pv7, show 8 / 4 = 2 from rfl, show 2 * 2 = 4 from rfl]
    by_cases h : 11 ≤ n / 58 ∧ n / 58 < 43 ∧ 5 ≤ n % 58 ∧ n % 58 < 53
    · rw [if_pos h, if_pos h]
      congr 1; omega
    · rw [if_neg h, if_neg h]
  · intro j hj
    simp only [pi7, show 8 / 4 = 2 from rfl, show 2 * 2 = 4 from rfl] at hj ⊢
    obtain ⟨r, hr⟩ : ∃ r, r = 11 + 2 * (j / 4 / 24) + j % 4 / 2 := ⟨_, rfl⟩
    obtain ⟨c, hc⟩ : ∃ c, c = 5 + 2 * (j / 4 % 24) + j % 4 % 2 := ⟨_, rfl⟩
    rw [← hr, ← hc]
    have e1 : (58 * r + c) / 58 = r := by omega
    have e2 : (58 * r + c) % 58 = c := by omega
    rw [e1, e2]
    have e3 : (r - 11) / 2 = j / 4 / 24 := by omega
    have e4 : (r - 11) % 2 = j % 4 / 2 := by omega
    have e5 : (c - 5) / 2 = j / 4 % 24 := by omega
    have e6 : (c - 5) % 2 = j % 4 % 2 := by omega
    rw [e3, e4, e5, e6]
    omega
  · intro n h
    simp only [pi7, show 8 / 4 = 2 from rfl, show 2 * 2 = 4 from rfl] at h ⊢
    omega

theorem bit_mod2 (k : Nat) : ((k + 1) % 2 : Nat) = bit (decide (k % 2 = 0)) := by
  unfold bit
  by_cases h : k % 2 = 0
  · rw [if_pos (by simpa using h)]; omega
  · rw [if_neg (by simpa using h)]; omega
theorem bit_mod4 (k : Nat) : (1 - (k % 4 / 2 : Nat) : Int) = bit (decide (k % 4 < 2)) := by
  unfold bit
  by_cases h : k % 4 < 2
  · rw [if_pos (by simpa using h)]; omega
  · rw [if_neg (by simpa using h)]; omega

def cellG2 (r c : Nat) : Int × Int :=
  if 11 ≤ r ∧ r < 75 ∧ 5 ≤ c ∧ c < 53 then (5, 8 * (((r - 11) / 4 * 24 + (c - 5) / 2 : Nat) : Int) + (((r - 11) % 4 * 2 + (c - 5) % 2 : Nat) : Int)) else
  if r = 10 ∧ 5 ≤ c ∧ c < 53 then (3, (((c - 5) % 2 : Nat) : Int)) else
  if 5 ≤ c ∧ c < 53 ∧ (5 ≤ r ∧ r < 10 ∨ 85 - 10 ≤ r ∧ r < 85 - 5) then (if r < 10 then (4, (((r - 5) * 48 + (c - 5) : Nat) : Int)) else (4, 240 + (((r - (85 - 10)) * 48 + (c - 5) : Nat) : Int))) else
  if 4 ≤ c ∧ c < 54 ∧ (r = 4 ∨ r = 85 - 5) then (if r = 4 then (2, (((c - 4 + 1) % 2 : Nat) : Int)) else (2, 1 - (((c - 4) % 4 / 2 : Nat) : Int))) else
  if 5 ≤ r ∧ r < 85 - 5 ∧ (c = 4 ∨ c = 53) then (if c = 4 then (2, (((r - 5 + 1) % 2 : Nat) : Int)) else (2, 1 - (((r - 5) % 4 / 2 : Nat) : Int))) else
  if 3 ≤ r ∧ r < 85 - 3 ∧ 3 ≤ c ∧ c < 55 then (1, 0) else (1, 1)
def cellG4 (r c : Nat) : Int × Int :=
  if 11 ≤ r ∧ r < 43 ∧ 5 ≤ c ∧ c < 53 then (5, 8 * (((r - 11) / 2 * 24 + (c - 5) / 2 : Nat) : Int) + ((2 * ((r - 11) % 2 * 2 + (c - 5) % 2) : Nat) : Int)) else
  if r = 10 ∧ 5 ≤ c ∧ c < 53 then (3, (((c - 5) % 4 : Nat) : Int)) else
  if 5 ≤ c ∧ c < 53 ∧ (5 ≤ r ∧ r < 10 ∨ 53 - 10 ≤ r ∧ r < 53 - 5) then (if r < 10 then (4, (((r - 5) * 48 + (c - 5) : Nat) : Int)) else (4, 240 + (((r - (53 - 10)) * 48 + (c - 5) : Nat) : Int))) else
  if 4 ≤ c ∧ c < 54 ∧ (r = 4 ∨ r = 53 - 5) then (if r = 4 then (2, (((c - 4 + 1) % 2 : Nat) : Int)) else (2, 1 - (((c - 4) % 4 / 2 : Nat) : Int))) else
  if 5 ≤ r ∧ r < 53 - 5 ∧ (c = 4 ∨ c = 53) then (if c = 4 then (2, (((r - 5 + 1) % 2 : Nat) : Int)) else (2, 1 - (((r - 5) % 4 / 2 : Nat) : Int))) else
  if 3 ≤ r ∧ r < 53 - 3 ∧ 3 ≤ c ∧ c < 55 then (1, 0) else (1, 1)

theorem cellG2_all : (List.range 85).all (fun r => (List.range 58).all fun c => decide (cellG2 r c = cellF 2 r c)) = true := by kernel_rfl
theorem cellG4_all : (List.range 53).all (fun r => (List.range 58).all fun c => decide (cellG4 r c = cellF 4 r c)) = true := by kernel_rfl
theorem cellG2_eq {r c : Nat} (hr : r < 85) (hc : c < 58) : cellG2 r c = cellF 2 r c := by
  have := List.all_eq_true.1 (List.all_eq_true.1 cellG2_all r (List.mem_range.2 hr)) c (List.mem_range.2 hc)
  simpa using this
theorem cellG4_eq {r c : Nat} (hr : r < 53) (hc : c < 58) : cellG4 r c = cellF 4 r c := by
  have := List.all_eq_true.1 (List.all_eq_true.1 cellG4_all r (List.mem_range.2 hr)) c (List.mem_range.2 hc)
  simpa using this

/-- The page that the document paints has the purpose of each cell. -/
theorem painted_cell (L : Nat) (hL : L = 2 ∨ L = 4) (n : Nat) (hn : n < rowsN L * 58) : pf7 L n = cellF L (n / 58) (n % 58) := by
  have hc58 : n % 58 < 58 := by omega
  rcases hL with rfl | rfl
  · have h85 : rowsN 2 = 85 := rfl
    rw [h85] at hn
    have hr : n / 58 < 85 := by omega
    rw [← cellG2_eq hr hc58, pf7_eq2, pf6_eq, pf5_eq, pf4_eq, pf3_eq, pf2_eq, pf1_eq, h85, if_pos hn]
    rfl
  · have h85 : rowsN 4 = 53 := rfl
    rw [h85] at hn
    have hr : n / 58 < 53 := by omega
    rw [← cellG4_eq hr hc58, pf7_eq4, pf6_eq, pf5_eq, pf4_eq, pf3_eq, pf2_eq, pf1_eq, h85, if_pos hn]
    rfl

end Go.Proofs.YtnfgedbcfclnmaaGreat

namespace Go.Proofs.YtnfgedbcfclnmaaGreat
open Go.RowKit

theorem Tryz.infoCell : (Tryz.prog.info? 84).map (fun i => (i.zero, i.size, i.bytes)) = some (some (.agg #[.int .i64 0, .int .i64 0]), 2, 16) := by kernel_rfl

theorem made2 (n : Nat) : (madeCells (Value.agg #[.int .i64 0, .int .i64 0]).cells (n * 2)).toList = List.replicate (n * 2) (.int .i64 0) := by
  have hc : (Value.agg #[.int .i64 0, .int .i64 0]).cells = #[.int .i64 0, .int .i64 0] := by kernel_rfl
  rw [hc]
  apply List.ext_getElem
  · simp [size_madeCells]
  · intro i h1 h2
    simp [madeCells]
    have : i % 2 = 0 ∨ i % 2 = 1 := by omega
    rcases this with g | g <;> simp [g]

theorem wp_make2 {P : Program} (w : World) {ops : Array Oper} {rest : List Oper} {o : Oper} {a : Act} {Q : Exit → Act → World → Prop} (hgd : o.guard = none) (l c : Operand) (t : TypeId)
    (hop : o.op = Op.makeSlice t l c) (e : TypeId) (bytes : Nat) (ht : P.underlying t = some (.slice e)) (hinfo : (P.info? e).map (fun i => (i.zero, i.size, i.bytes)) = some (some (.agg #[.int .i64 0, .int .i64 0]), 2, bytes)) (hby : bytes ≤ 1000)
    (L : Int) (n : Nat) (hl : a.eval l = .int .i64 L) (hc : a.eval c = .int .i64 L) (hL : L = n) (hn : n ≤ 100000000)
    (hK : wpList P ops Q rest (a.put o.dst (.slice (some ⟨w.heap.size, 0, none⟩) n n)) (w.alloc (.cells (List.replicate (n * 2) (Value.int .i64 0)).toArray e))) :
    wpList P ops Q (o :: rest) a w := by
  obtain ⟨i, hi, hz0, hz1, hz2⟩ := info_parts hinfo
  refine wpList_plain hgd fun K hK' => ?_
  have hb : ((i.bytes : Int)) * L ≤ 281474976710656 := by
    have h1 : i.bytes * n ≤ 1000 * 100000000 := Nat.mul_le_mul (by omega) hn
    have h2 : ((i.bytes * n : Nat) : Int) = (i.bytes : Int) * L := by rw [hL]; exact Int.natCast_mul _ _
    omega
  have hr := run_make (P := P) w t e i _ ht hi hz0 .i64 .i64 L L (by omega) (Int.le_refl _) hb (by omega)
  have hn' : L.toNat = n := by omega
  have he : madeCells (Value.agg #[.int .i64 0, .int .i64 0]).cells (L.toNat * i.size) = (List.replicate (n * 2) (Value.int .i64 0)).toArray := by
    rw [hz1, hn']
    apply Array.toList_inj.1
    rw [made2]
  rw [he, hn'] at hr
  unfold Oper.wp
  simp only [execOp, hop, hl, hc]
  simp [hr, Result.andThen]
  exact hK' _ _ hK

/-- A block of cells of a page: two cells each. -/
def PBlk (w : World) (g M : Nat) (f : CellFn) : Prop :=
  ∃ cs : List Value, LBlk w g cs 84 ∧ cs.length = M * 2 ∧ ∀ n, n < M → cs[n * 2]? = some (.int .i64 (f n).1) ∧ cs[n * 2 + 1]? = some (.int .i64 (f n).2)
theorem PBlk.lt {w : World} {g M : Nat} {f : CellFn} (h : PBlk w g M f) : g < w.heap.size := by obtain ⟨cs, hb, -⟩ := h; exact hb.lt
theorem PBlk.keep {B : Nat} {w w1 : World} {g M : Nat} {f : CellFn} (h : PBlk w g M f) (hb : Below B w w1) (hlt : g < B) : PBlk w1 g M f := by
  obtain ⟨cs, h1, h2⟩ := h; exact ⟨cs, h1.keep hb hlt, h2⟩
theorem PBlk.get {w : World} {g M : Nat} {f : CellFn} (h : PBlk w g M f) {n : Nat} (hn : n < M) : w.cell? ⟨g, n * 2, none⟩ = some (.int .i64 (f n).1) ∧ w.cell? ⟨g, n * 2 + 1, none⟩ = some (.int .i64 (f n).2) ∧ (∀ o, w.frozen? ⟨g, o, none⟩ = false) ∧ g < w.heap.size := by
  obtain ⟨cs, h1, h2, h3⟩ := h
  exact ⟨h1.cell (h3 n hn).1, h1.cell (h3 n hn).2, fun o => h1.froz o, h1.lt⟩
theorem PBlk.set {w : World} {g M : Nat} {f : CellFn} (h : PBlk w g M f) {i : Nat} (hi : i < M) (x y : Int) : PBlk ((w.setCell ⟨g, i * 2, none⟩ (.int .i64 x)).setCell ⟨g, i * 2 + 1, none⟩ (.int .i64 y)) g M (upd f i (x, y)) := by
  obtain ⟨cs, h1, h2, h3⟩ := h
  refine ⟨_, (h1.set (i := i * 2) (.int .i64 x)).set (i := i * 2 + 1) (.int .i64 y), by simp [h2], fun n hn => ?_⟩
  unfold upd
  by_cases e : n = i
  · subst e
    rw [if_pos rfl]
    refine ⟨?_, ?_⟩
    · rw [List.getElem?_set_ne (by omega), List.getElem?_set_self (by omega)]
    · rw [List.getElem?_set_self (by simp; omega)]
  · rw [if_neg e]
    obtain ⟨a, b⟩ := h3 n hn
    refine ⟨?_, ?_⟩
    · rw [List.getElem?_set_ne (by omega), List.getElem?_set_ne (by omega)]; exact a
    · rw [List.getElem?_set_ne (by omega), List.getElem?_set_ne (by omega)]; exact b
theorem PBlk.congr {w : World} {g M : Nat} {f f' : CellFn} (h : PBlk w g M f) (hf : ∀ n, n < M → f n = f' n) : PBlk w g M f' := by
  obtain ⟨cs, h1, h2, h3⟩ := h
  exact ⟨cs, h1, h2, fun n hn => by rw [← hf n hn]; exact h3 n hn⟩

structure PtEnv (w : World) (g M : Nat) (f : CellFn) (wx : World) : Prop where
  below : Below w.heap.size w wx
  blk : PBlk wx g M f
  hg : w.heap.size ≤ g
theorem PtEnv.set {w wx : World} {g M : Nat} {f : CellFn} (h : PtEnv w g M f wx) {i : Nat} (hi : i < M) (x y : Int) : PtEnv w g M (upd f i (x, y)) ((wx.setCell ⟨g, i * 2, none⟩ (.int .i64 x)).setCell ⟨g, i * 2 + 1, none⟩ (.int .i64 y)) :=
  ⟨(h.below.setCell h.hg _).setCell h.hg _, h.blk.set hi x y, h.hg⟩
theorem PtEnv.to {w wx : World} {g M : Nat} {f f' : CellFn} (h : PtEnv w g M f wx) (e : f = f') : PtEnv w g M f' wx := e ▸ h

theorem it2 {idx : Nat → Nat} {v : Nat → Int × Int} {f : CellFn} {k i1 i2 : Nat} {x1 x2 : Int × Int} (a : idx (2 * k) = i1) (b : v (2 * k) = x1) (c : idx (2 * k + 1) = i2) (d : v (2 * k + 1) = x2) :
    upd (upd (itU idx v f (2 * k)) i1 x1) i2 x2 = itU idx v f (2 * (k + 1)) := by
  subst a b c d; rfl
theorem it1 {idx : Nat → Nat} {v : Nat → Int × Int} {f : CellFn} {k k' i : Nat} {x : Int × Int} (e : k' = k + 1) (a : idx k = i) (b : v k = x) : upd (itU idx v f k) i x = itU idx v f k' := by
  subst a b e; rfl

set_option maxRecDepth 100000 in
set_option maxHeartbeats 8000000 in
theorem painted_any (L : Nat) (w : World) (hL : L = 2 ∨ L = 4) :
    Calls Tryz.prog 62 #[.int .i64 L] w fun e w' => ∃ g, e = .returned (.slice (some ⟨g, 0, none⟩) (rowsN L * 58) (rowsN L * 58)) ∧ w.heap.size ≤ g ∧ PBlk w' g (rowsN L * 58) (fun n => cellF L (n / 58) (n % 58)) ∧ Below w.heap.size w w' := by
  obtain ⟨R, hR⟩ : ∃ R, R = rowsN L := ⟨_, rfl⟩
  have hR2 : R = 85 ∨ R = 53 := by rw [hR]; rcases hL with rfl | rfl; (· exact .inl rfl); (· exact .inr rfl)
  have hRo : rowsOfF L = (R : Int) := by rw [hR]; rcases hL with rfl | rfl <;> rfl
  obtain ⟨M, hM⟩ : ∃ M, M = R * 58 := ⟨_, rfl⟩
  have HM := Lib.hid hM
  have HR := Lib.hid hR
  have HL := Lib.hid hL
  have hM1 : M ≤ 4930 := by omega
  have hMw : (R : Int) * 58 = (M : Int) := by omega
  rw [← hR, ← hM]
  have hRb : R ≤ 85 ∧ 53 ≤ R := by omega
  have hLb : L ≤ 4 ∧ 2 ≤ L := by omega
  clear hL hR2 hR hM
  obtain ⟨hRb1, hRb2⟩ := hRb
  obtain ⟨hLb1, hLb2⟩ := hLb
  go_enter Tryz.func62, Tryz.ntmps62
  go_wp2_with (first | (go_at_call 84; refine (rowsOf_any _ _).mono ?_; rintro e w' ⟨rfl, rfl⟩; rw [hRo]) | (at_make; refine wp_make2 _ rfl _ _ 100 rfl 84 16 Tryz.underlying100 Tryz.infoCell (by decide) _ M rfl rfl rfl (by omega) ?_))
  generalize hW2 : World.alloc w _ = W2
  have E : PtEnv w w.heap.size M pf0 W2 := by
    rw [← hW2]
    refine ⟨(by repeat (first | (with_reducible exact Below.refl _ _) | (with_reducible assumption) | ((with_reducible refine Below.setCell ?_ ?_ _); rotate_left; (focus (first | omega | (simp; done) | (simp; omega)))) | (with_reducible refine Below.drew ?_) | (with_reducible refine below_drewN ?_ _) | ((with_reducible refine Below.alloc ?_ ?_ _); rotate_left; (focus (first | omega | (simp; done) | (simp; omega)))))), ⟨_, Blk.new _ _ _, by simp, fun n hn => ⟨by rw [List.getElem?_replicate, if_pos (by omega)]; rfl, by rw [List.getElem?_replicate, if_pos (by omega)]; rfl⟩⟩, Nat.le_refl _⟩
  obtain ⟨g, hg⟩ : ∃ g, g = w.heap.size := ⟨_, rfl⟩
  have hg1 : w.heap.size ≤ g := by omega
  rw [← hg] at E ⊢
  clear hW2 hg
  go_wp2_with fail
  go_loopw [5] (fun v wr => ∃ k : Nat, v = .int .i64 k ∧ k ≤ M ∧ PtEnv w g M (itU pi1 pv1 pf0 k) wr) (fun v _ => M - (intOf v).toNat)
  case atStart => exact ⟨0, rfl, by omega, E⟩
  case round =>
    clear E
    obtain ⟨k, rfl, hk, E⟩ := hrel
    obtain ⟨wa, rfl⟩ : ∃ wo : World, wo = wr := ⟨_, rfl⟩
    by_cases hlt : k < M
    · have hd1 : decide ((k : Int) < (M : Int)) = true := by simp; omega
      have hd2 : (k : Int) < (M : Int) := by omega
      obtain ⟨c0, c1, cf, cl⟩ := E.blk.get hlt
      go_wp2_with fail
      go_roundw
      case rel => exact ⟨k + 1, by go_num, by omega, E.set hlt _ _⟩
      case measure => simp [intOf]; omega
    · obtain rfl : M = k := by omega
      replace E : PtEnv w g M (pf1 L) wa := E.to (by rw [pf1, ← HR.out, ← HM.out])
      have hd1 : decide ((M : Int) < (M : Int)) = false := by simp
      clear hk hlt
      go_wp2_with fail
      clear hd1
      go_loopw [6, 7] (fun v _ wr => ∃ r : Nat, v = .int .i64 r ∧ 3 ≤ r ∧ r ≤ R - 3 ∧ PtEnv w g M (itU pi2 pv2 (pf1 L) ((r - 3) * 52)) wr) (fun v _ _ => R - (intOf v).toNat)
      case atStart => exact ⟨3, rfl, by omega, by omega, E⟩
      case round =>
        clear E
        obtain ⟨r, rfl, hr1, hr2, E⟩ := hrel
        obtain ⟨wb, rfl⟩ : ∃ wo : World, wo = wr := ⟨_, rfl⟩
        by_cases hlt : r < R - 3
        · have hd1 : decide ((r : Int) < (R : Int) - 3) = true := by simp; omega
          go_wp2_with fail
          clear hd1
          go_loopw [7] (fun v wr => ∃ c : Nat, v = .int .i64 c ∧ 3 ≤ c ∧ c ≤ 55 ∧ PtEnv w g M (itU pi2 pv2 (pf1 L) ((r - 3) * 52 + (c - 3))) wr) (fun v _ => 55 - (intOf v).toNat)
          case atStart => exact ⟨3, rfl, by omega, by omega, E⟩
          case round =>
            clear E
            obtain ⟨c, rfl, hc1, hc2, E⟩ := hrel
            obtain ⟨wc, rfl⟩ : ∃ wo : World, wo = wr := ⟨_, rfl⟩
            by_cases hlt2 : c < 55
            · have hd2 : decide ((c : Int) < 55) = true := by simp; omega
              obtain ⟨i, hi⟩ : ∃ i, i = 58 * r + c := ⟨_, rfl⟩
              have hidx : 58 * (r : Int) + (c : Int) = (i : Int) := by omega
              have hiM : i < M := by have := HM.out; omega
              have hiM' : (i : Int) < (M : Int) := by omega
              obtain ⟨c0, c1, cf, cl⟩ := E.blk.get hiM
              have HI := Lib.hid hi
              clear hi
              go_wp2_with fail
              go_roundw
              case rel => exact ⟨c + 1, by go_num, by omega, by omega, (E.set hiM _ _).to (it1 (by omega) (by have := HI.out; simp only [pi2]; omega) rfl)⟩
              case measure => simp [intOf]; omega
            · obtain rfl : c = 55 := by omega
              have hd2 : decide ((55 : Int) < 55) = false := by simp
              go_wp2_with fail
              go_roundw
              case rel => exact ⟨r + 1, by go_num, by omega, by omega, E.to (by congr 1; omega)⟩
              case measure => simp [intOf]; omega
        · obtain rfl : r = R - 3 := by omega
          replace E : PtEnv w g M (pf2 L) wb := E.to (by rw [pf2, ← HR.out, show R - 6 = R - 3 - 3 by omega])
          have hd1 : decide (((R - 3 : Nat) : Int) < (R : Int) - 3) = false := by simp; omega
          clear hr1 hr2 hlt
          go_wp2_with fail
          clear hd1
          go_loopw [8] (fun v wr => ∃ k : Nat, v = .int .i64 k ∧ k ≤ R - 10 ∧ PtEnv w g M (itU pi3 pv3 (pf2 L) (2 * k)) wr) (fun v _ => R - (intOf v).toNat)
          case atStart => exact ⟨0, rfl, by omega, E⟩
          case round =>
            clear E
            obtain ⟨k, rfl, hk, E⟩ := hrel
            obtain ⟨wd, rfl⟩ : ∃ wo : World, wo = wr := ⟨_, rfl⟩
            by_cases hlt : k < R - 10
            · have hd1 : decide ((k : Int) < (R : Int) - 10) = true := by simp; omega
              obtain ⟨i1, hi1⟩ : ∃ i, i = 58 * (5 + k) + 4 := ⟨_, rfl⟩
              obtain ⟨i2, hi2⟩ : ∃ i, i = 58 * (5 + k) + 53 := ⟨_, rfl⟩
              have hidx1 : 58 * (5 + (k : Int)) + 4 = (i1 : Int) := by omega
              have hidx2 : 58 * (5 + (k : Int)) + 53 = (i2 : Int) := by omega
              obtain ⟨x, hx⟩ : ∃ x, x = (k + 1) % 2 := ⟨_, rfl⟩
              obtain ⟨y4, hy4⟩ : ∃ y, y = k % 4 := ⟨_, rfl⟩
              obtain ⟨y, hy⟩ : ∃ y, y = y4 / 2 := ⟨_, rfl⟩
              have f1 : Int.tmod ((k : Int) + 1) 2 = (x : Int) := by rw [hx]; rfl
              have f2 : Int.tmod (k : Int) 4 = (y4 : Int) := by rw [hy4]; rfl
              have f3 : Int.tdiv (y4 : Int) 2 = (y : Int) := by rw [hy]; rfl
              have hx2 : x < 2 := by omega
              have hy42 : y4 < 4 := by omega
              have hy2 : y < 2 := by omega
              have hiM1 : i1 < M := by have := HM.out; omega
              have hiM2 : i2 < M := by have := HM.out; omega
              have hiM1' : (i1 : Int) < (M : Int) := by omega
              have hiM2' : (i2 : Int) < (M : Int) := by omega
              have E1 := E.set hiM1 2 (x : Int)
              have E2 := (E1.set hiM2 2 (1 - (y : Int))).to (it2 (by rw [pi3, if_pos (by omega)]; omega) (by rw [pv3, if_pos (by omega), hx]; congr 3; omega) (by rw [pi3, if_neg (by omega)]; omega) (by rw [pv3, if_neg (by omega), hy, hy4]; congr 4; omega))
              obtain ⟨c0, c1, cf, cl⟩ := E.blk.get hiM1
              obtain ⟨d0, d1, df, dl⟩ := E1.blk.get hiM2
              clear hi1 hi2 hx hy hy4 E1 E
              go_wp2_with fail
              go_roundw
              case rel => exact ⟨k + 1, by go_num, by omega, E2⟩
              case measure => simp [intOf]; omega
            · obtain rfl : k = R - 10 := by omega
              replace E : PtEnv w g M (pf3 L) wd := E.to (by rw [pf3, ← HR.out])
              have hd1 : decide (((R - 10 : Nat) : Int) < (R : Int) - 10) = false := by simp; omega
              clear hk hlt
              go_wp2_with fail
              clear hd1
              go_loopw [9] (fun v wr => ∃ k : Nat, v = .int .i64 k ∧ k ≤ 50 ∧ PtEnv w g M (itU (pi4 R) pv4 (pf3 L) (2 * k)) wr) (fun v _ => 50 - (intOf v).toNat)
              case atStart => exact ⟨0, rfl, by omega, E⟩
              case round =>
                clear E
                obtain ⟨k, rfl, hk, E⟩ := hrel
                obtain ⟨we, rfl⟩ : ∃ wo : World, wo = wr := ⟨_, rfl⟩
                by_cases hlt : k < 50
                · have hd1 : decide ((k : Int) < 50) = true := by simp; omega
                  obtain ⟨i1, hi1⟩ : ∃ i, i = 236 + k := ⟨_, rfl⟩
                  obtain ⟨i2, hi2⟩ : ∃ i, i = 58 * (R - 5) + 4 + k := ⟨_, rfl⟩
                  have hidx1 : 236 + (k : Int) = (i1 : Int) := by omega
                  have hidx2 : 58 * ((R : Int) - 5) + 4 + (k : Int) = (i2 : Int) := by omega
                  obtain ⟨x, hx⟩ : ∃ x, x = (k + 1) % 2 := ⟨_, rfl⟩
                  obtain ⟨y4, hy4⟩ : ∃ y, y = k % 4 := ⟨_, rfl⟩
                  obtain ⟨y, hy⟩ : ∃ y, y = y4 / 2 := ⟨_, rfl⟩
                  have f1 : Int.tmod ((k : Int) + 1) 2 = (x : Int) := by rw [hx]; rfl
                  have f2 : Int.tmod (k : Int) 4 = (y4 : Int) := by rw [hy4]; rfl
                  have f3 : Int.tdiv (y4 : Int) 2 = (y : Int) := by rw [hy]; rfl
                  have hx2 : x < 2 := by omega
                  have hy42 : y4 < 4 := by omega
                  have hy2 : y < 2 := by omega
                  have hiM1 : i1 < M := by have := HM.out; omega
                  have hiM2 : i2 < M := by have := HM.out; omega
                  have hiM1' : (i1 : Int) < (M : Int) := by omega
                  have hiM2' : (i2 : Int) < (M : Int) := by omega
                  have E1 := E.set hiM1 2 (x : Int)
                  have E2 := (E1.set hiM2 2 (1 - (y : Int))).to (it2 (by rw [pi4, if_pos (by omega)]; try omega) (by rw [pv4, if_pos (by omega), hx]; congr 3; omega) (by rw [pi4, if_neg (by omega)]; omega) (by rw [pv4, if_neg (by omega), hy, hy4]; congr 4; omega))
                  obtain ⟨c0, c1, cf, cl⟩ := E.blk.get hiM1
                  obtain ⟨d0, d1, df, dl⟩ := E1.blk.get hiM2
                  clear hi1 hi2 hx hy hy4 E1 E
                  go_wp2_with fail
                  go_roundw
                  case rel => exact ⟨k + 1, by go_num, by omega, E2⟩
                  case measure => simp [intOf]; omega
                · obtain rfl : k = 50 := by omega
                  replace E : PtEnv w g M (pf4 L) we := E.to (by rw [pf4, ← HR.out])
                  have hd1 : decide ((50 : Int) < 50) = false := by simp
                  clear hk hlt
                  go_wp2_with fail
                  clear hd1
                  go_loopw [10] (fun v wr => ∃ k : Nat, v = .int .i64 k ∧ k ≤ 240 ∧ PtEnv w g M (itU (pi5 R) pv5 (pf4 L) (2 * k)) wr) (fun v _ => 240 - (intOf v).toNat)
                  case atStart => exact ⟨0, rfl, by omega, E⟩
                  case round =>
                    clear E
                    obtain ⟨k, rfl, hk, E⟩ := hrel
                    obtain ⟨wf, rfl⟩ : ∃ wo : World, wo = wr := ⟨_, rfl⟩
                    by_cases hlt : k < 240
                    · have hd1 : decide ((k : Int) < 240) = true := by simp; omega
                      obtain ⟨q, hq⟩ : ∃ q, q = k / 48 := ⟨_, rfl⟩
                      obtain ⟨m, hm⟩ : ∃ m, m = k % 48 := ⟨_, rfl⟩
                      obtain ⟨i1, hi1⟩ : ∃ i, i = 58 * (5 + q) + 5 + m := ⟨_, rfl⟩
                      obtain ⟨i2, hi2⟩ : ∃ i, i = 58 * (R - 10 + q) + 5 + m := ⟨_, rfl⟩
                      have hidx1 : 58 * (5 + (q : Int)) + 5 + (m : Int) = (i1 : Int) := by omega
                      have hidx2 : 58 * ((R : Int) - 10 + (q : Int)) + 5 + (m : Int) = (i2 : Int) := by omega
                      have f1 : Int.tdiv (k : Int) 48 = (q : Int) := by rw [hq]; rfl
                      have f2 : Int.tmod (k : Int) 48 = (m : Int) := by rw [hm]; rfl
                      have hq5 : q < 5 := by omega
                      have hm48 : m < 48 := by omega
                      have hiM1 : i1 < M := by have := HM.out; omega
                      have hiM2 : i2 < M := by have := HM.out; omega
                      have hiM1' : (i1 : Int) < (M : Int) := by omega
                      have hiM2' : (i2 : Int) < (M : Int) := by omega
                      have E1 := E.set hiM1 4 (k : Int)
                      have E2 := (E1.set hiM2 4 (240 + (k : Int))).to (it2 (by rw [pi5, if_pos (by omega), show 2 * k / 2 = k by omega, ← hq, ← hm, hi1]) (by rw [pv5, if_pos (by omega), show 2 * k / 2 = k by omega]) (by rw [pi5, if_neg (by omega), show (2 * k + 1) / 2 = k by omega, ← hq, ← hm, hi2]) (by rw [pv5, if_neg (by omega), show (2 * k + 1) / 2 = k by omega]))
                      obtain ⟨c0, c1, cf, cl⟩ := E.blk.get hiM1
                      obtain ⟨d0, d1, df, dl⟩ := E1.blk.get hiM2
                      clear hi1 hi2 hq hm E1 E
                      go_wp2_with fail
                      go_roundw
                      case rel => exact ⟨k + 1, by go_num, by omega, E2⟩
                      case measure => simp [intOf]; omega
                    · obtain rfl : k = 240 := by omega
                      replace E : PtEnv w g M (pf5 L) wf := E.to (by rw [pf5, ← HR.out])
                      have hd1 : decide ((240 : Int) < 240) = false := by simp
                      clear hk hlt
                      go_wp2_with fail
                      clear hd1
                      have hL0 : ¬ (L : Int) = 0 := by omega
                      go_loopw [11] (fun v wr => ∃ k : Nat, v = .int .i64 k ∧ k ≤ 48 ∧ PtEnv w g M (itU pi6 (pv6 L) (pf5 L) k) wr) (fun v _ => 48 - (intOf v).toNat)
                      case atStart => exact ⟨0, rfl, by omega, E⟩
                      case round =>
                        clear E
                        obtain ⟨k, rfl, hk, E⟩ := hrel
                        obtain ⟨wg, rfl⟩ : ∃ wo : World, wo = wr := ⟨_, rfl⟩
                        by_cases hlt : k < 48
                        · have hd1 : decide ((k : Int) < 48) = true := by simp; omega
                          obtain ⟨i, hi⟩ : ∃ i, i = 585 + k := ⟨_, rfl⟩
                          have hidx : 585 + (k : Int) = (i : Int) := by omega
                          obtain ⟨x, hx⟩ : ∃ x, x = k % L := ⟨_, rfl⟩
                          have f1 : Int.tmod (k : Int) (L : Int) = (x : Int) := by rw [hx]; rfl
                          have hx4 : x < 4 := by rw [hx]; have := Nat.mod_lt k (show 0 < L by omega); omega
                          have hiM : i < M := by have := HM.out; omega
                          have hiM' : (i : Int) < (M : Int) := by omega
                          have E1 := (E.set hiM 3 (x : Int)).to (it1 (k' := k + 1) rfl (by rw [pi6, hi]) (by rw [pv6, hx]))
                          obtain ⟨c0, c1, cf, cl⟩ := E.blk.get hiM
                          clear hi hx E
                          go_wp2_with fail
                          go_roundw
                          case rel => exact ⟨k + 1, by go_num, by omega, E1⟩
                          case measure => simp [intOf]; omega
                        · obtain rfl : k = 48 := by omega
                          replace E : PtEnv w g M (pf6 L) wg := E.to rfl
                          have hd1 : decide ((48 : Int) < 48) = false := by simp
                          obtain ⟨h, hh⟩ : ∃ h, h = 8 / L := ⟨_, rfl⟩
                          have hdiv : Int.tdiv 8 (L : Int) = (h : Int) := by rw [hh]; rfl
                          have hcase : L = 2 ∧ h = 4 ∧ R = 85 ∨ L = 4 ∧ h = 2 ∧ R = 53 := by
                            rw [HR.out, hh]
                            rcases HL.out with rfl | rfl
                            · exact .inl ⟨rfl, rfl, rfl⟩
                            · exact .inr ⟨rfl, rfl, rfl⟩
                          have hh2 : 2 ≤ h := by omega
                          have hh4 : h ≤ 4 := by omega
                          have HH := Lib.hid hcase
                          have HHd := Lib.hid hh
                          clear hk hlt hcase hh
                          go_wp2_with fail
                          clear hd1
                          go_loopw [13, 14, 15, 16] (fun v _ _ _ wr => ∃ p : Nat, v = .int .i64 p ∧ p ≤ 384 ∧ PtEnv w g M (itU (pi7 h) (pv7 L h) (pf6 L) (p * (2 * h))) wr) (fun v _ _ _ _ => 384 - (intOf v).toNat)
                          case atStart => exact ⟨0, rfl, by omega, E.to (by rw [Nat.zero_mul]; rfl)⟩
                          case round =>
                            clear E
                            obtain ⟨p, rfl, hp, E⟩ := hrel
                            obtain ⟨wh, rfl⟩ : ∃ wo : World, wo = wr := ⟨_, rfl⟩
                            by_cases hlt : p < 384
                            · have hd1 : decide ((p : Int) < 384) = true := by simp; omega
                              go_wp2_with fail
                              clear hd1
                              obtain ⟨q, hq⟩ : ∃ q, q = p / 24 := ⟨_, rfl⟩
                              obtain ⟨m, hm⟩ : ∃ m, m = p % 24 := ⟨_, rfl⟩
                              obtain ⟨u, hu⟩ : ∃ u, u = h * q := ⟨_, rfl⟩
                              have f1 : Int.tdiv (p : Int) 24 = (q : Int) := by rw [hq]; rfl
                              have f2 : Int.tmod (p : Int) 24 = (m : Int) := by rw [hm]; rfl
                              have f3 : (h : Int) * (q : Int) = (u : Int) := by rw [hu]; simp
                              have hq16 : q < 16 := by omega
                              have hm24 : m < 24 := by omega
                              have hu60 : u ≤ 60 := by rcases HH.out with ⟨_, e, _⟩ | ⟨_, e, _⟩ <;> rw [e] at hu <;> omega
                              have HQ := Lib.hid hq
                              have HMm := Lib.hid hm
                              have HU := Lib.hid hu
                              clear hq hm hu
                              go_loopw [14, 15, 16] (fun v _ _ wr => ∃ k : Nat, v = .int .i64 k ∧ k ≤ 2 * h ∧ PtEnv w g M (itU (pi7 h) (pv7 L h) (pf6 L) (p * (2 * h) + k)) wr) (fun v _ _ _ => 2 * h - (intOf v).toNat)
                              case atStart => exact ⟨0, rfl, by omega, E⟩
                              case round =>
                                clear E
                                obtain ⟨k, rfl, hk, E⟩ := hrel
                                obtain ⟨wi, rfl⟩ : ∃ wo : World, wo = wr := ⟨_, rfl⟩
                                by_cases hlt2 : k < 2 * h
                                · have hd2 : decide ((k : Int) < 2 * (h : Int)) = true := by simp; omega
                                  obtain ⟨k2, hk2⟩ : ∃ x, x = k / 2 := ⟨_, rfl⟩
                                  obtain ⟨k1, hk1⟩ : ∃ x, x = k % 2 := ⟨_, rfl⟩
                                  obtain ⟨kl, hkl⟩ : ∃ x, x = k * L := ⟨_, rfl⟩
                                  obtain ⟨y, hy⟩ : ∃ y, y = kl / 2 := ⟨_, rfl⟩
                                  have f4 : Int.tdiv (k : Int) 2 = (k2 : Int) := by rw [hk2]; rfl
                                  have f5 : Int.tmod (k : Int) 2 = (k1 : Int) := by rw [hk1]; rfl
                                  have f6 : (k : Int) * (L : Int) = (kl : Int) := by rw [hkl]; simp
                                  have f7 : Int.tdiv (kl : Int) 2 = (y : Int) := by rw [hy]; rfl
                                  have hk8 : k < 8 := by omega
                                  have hkl2 : kl ≤ 28 := by
                                    rw [hkl]
                                    exact Nat.le_trans (Nat.mul_le_mul (show k ≤ 7 by omega) hLb1) (by omega)
                                  have hy14 : y ≤ 14 := by omega
                                  have hk24 : k2 < 4 := by omega
                                  have hk12 : k1 < 2 := by omega
                                  obtain ⟨i, hi⟩ : ∃ i, i = 58 * (11 + u + k2) + (5 + 2 * m + k1) := ⟨_, rfl⟩
                                  have hidx : 58 * (11 + (u : Int) + (k2 : Int)) + (5 + 2 * (m : Int) + (k1 : Int)) = (i : Int) := by omega
                                  have hiM : i < M := by
                                    have e1 := HM.out
                                    have e2 := HU.out
                                    rcases HH.out with ⟨_, e, e'⟩ | ⟨_, e, e'⟩ <;> rw [e] at e2 hlt2 <;> omega
                                  have hiM' : (i : Int) < (M : Int) := by omega
                                  have hj : ∃ j, j = p * (2 * h) + k ∧ j / (2 * h) = p ∧ j % (2 * h) = k := by
                                    refine ⟨_, rfl, ?_, ?_⟩
                                    · rw [Nat.mul_comm, Nat.mul_add_div (by omega), Nat.div_eq_of_lt hlt2]; rfl
                                    · rw [Nat.mul_comm, Nat.mul_add_mod, Nat.mod_eq_of_lt hlt2]
                                  obtain ⟨j, hj1, hj2, hj3⟩ := hj
                                  have E1 := (E.set hiM 5 (8 * (p : Int) + (y : Int))).to (it1 (k' := p * (2 * h) + (k + 1)) rfl (by rw [← hj1, pi7, hj2, hj3, ← HQ.out, ← HMm.out, ← HU.out, ← hk2, ← hk1, hi]) (by rw [← hj1, pv7, hj2, hj3, ← hkl, ← hy]))
                                  obtain ⟨c0, c1, cf, cl⟩ := E.blk.get hiM
                                  clear hi hk2 hk1 hkl hy hj1 hj2 hj3 E
                                  go_wp2_with fail
                                  go_roundw
                                  case rel => exact ⟨k + 1, by go_num, by omega, E1⟩
                                  case measure => simp [intOf]; omega
                                · obtain rfl : k = 2 * h := by omega
                                  have hd2 : decide (((2 * h : Nat) : Int) < 2 * (h : Int)) = false := by simp
                                  clear hlt2 hk
                                  go_wp2_with fail
                                  go_roundw
                                  case rel => exact ⟨p + 1, by go_num, by omega, E.to (by rw [Nat.add_mul, Nat.one_mul])⟩
                                  case measure => simp [intOf]; omega
                            · obtain rfl : p = 384 := by omega
                              have hd1 : decide ((384 : Int) < 384) = false := by simp
                              replace E : PtEnv w g M (pf7 L) wh := E.to (by rw [pf7, ← HHd.out])
                              have hfin : PBlk wh g M (fun n => cellF L (n / 58) (n % 58)) := E.blk.congr fun n hn => painted_cell L HL.out n (by rw [← HR.out, ← HM.out]; exact hn)
                              have HF := Lib.hid hfin
                              have hB := E.below
                              clear hp hlt hfin E
                              go_wp2_with fail
                              go_ret
                              exact ⟨g, rfl, hg1, HF.out, hB⟩

end Go.Proofs.YtnfgedbcfclnmaaGreat

namespace Go.Proofs.YtnfgedbcfclnmaaGreat
open Go.RowKit

/-- The document's shade: -1 if there is none. -/
def shadeR (W H : Int) (px l o : List Int) (s : Int) (k : Nat) (x : Int) : Int := if vThere W H l o s k x = true then vShade W H px l o s k x else -1

theorem getD_byte {px : List Int} (h : ∀ n ∈ px, 0 ≤ n ∧ n ≤ 255) (i : Nat) : 0 ≤ px.getD i 0 ∧ px.getD i 0 ≤ 255 := by
  by_cases hi : i < px.length
  · exact h _ (List.mem_of_getElem? (getD_some (d := 0) hi))
  · have : px.getD i 0 = 0 := by simp [List.getD, List.getElem?_eq_none (by omega : px.length ≤ i)]
    rw [this]; omega
theorem pixF_range {w : World} {W H : Int} {pv : Value} {px : List Int} (h : ImgOk w W H pv px) (x y : Int) : 0 ≤ pixF W H px x y ∧ pixF W H px x y ≤ 255 := by
  rw [pixF]
  split
  · exact getD_byte h.by1 _
  · omega

theorem below_alloc2 (w : World) (o1 o2 : Obj) : Below w.heap.size w ((w.alloc o1).alloc o2) := ((Below.refl _ _).alloc (Nat.le_refl _) _).alloc (by simp) _

set_option maxRecDepth 100000 in
set_option maxHeartbeats 4000000 in
theorem shade_any (W H t s R : Int) (a : Option Addr) (np cp : Nat) (tv lv : Value) (px l o : List Int) (k : Nat) (x : Int) (w : World) (h : ImgOk w W H (.slice a np cp) px) (ht : Reads (Value.int .i64) w tv l) (hl : Reads (Value.int .i64) w lv o) (hW : (l.length : Int) = W) (hok : listOk l = true)
    (hoo : -1 ≤ o.getD k 0 ∧ o.getD k 0 ≤ 1000000000) (hs : 3 ≤ s ∧ s ≤ 6) (hk : k < o.length) (hk2 : k ≤ 1000) (hx : 0 ≤ x ∧ x ≤ 400) :
    Calls Tryz.prog 64 #[.agg #[.int .i64 W, .int .i64 H, .slice a np cp], .agg #[.int .i64 t, .int .i64 s, .int .i64 R, tv, lv], .int .i64 x, .int .i64 k] w fun e w' => e = .returned (.int .i64 (shadeR W H px l o s k x)) ∧ Below w.heap.size w w' := by
  obtain ⟨b, off, cap, rfl, hc1, hc2, hb, hc⟩ := hl.some (by omega)
  obtain ⟨hb1, hb2⟩ := hoo
  obtain ⟨z, hz⟩ : ∃ z, z = o.getD k 0 := ⟨_, rfl⟩
  have c0 := hc k _ (getD_some (d := 0) hk)
  rw [← hz] at c0 hb1 hb2
  have hkl : (k : Int) < (o.length : Int) := by omega
  obtain ⟨x', hx'⟩ : ∃ x', x' = z - 3 * s + x := ⟨_, rfl⟩
  have h1 := h.w1
  have h2 := h.w2
  have h3 := h.h1
  have h4 := h.h2
  have HTH := Lib.hid (fun wz hT => there_any W H (.slice a np cp) tv l x' k wz hT hW h2 hok ⟨by omega, by omega⟩)
  have hres : shadeR W H px l o s k x = if z = -1 then -1 else if thereB W H l x' k = true then pixF W H px x' (l.getD x'.toNat 0 + k) else -1 := by
    rw [shadeR, vThere, vShade, ← hz, ← hx']
    by_cases hz1 : z = -1
    · simp [hz1]
    · have hzb : (z == -1) = false := by simpa using hz1
      rw [if_neg hz1, if_neg hz1, hzb]
      simp only [Bool.not_false, Bool.true_and]
      by_cases ht : thereB W H l x' k = true
      · rw [if_pos ht, if_pos ht, shadeF, if_pos ht]
        have ht' := ht
        simp only [thereB, inB, Bool.and_eq_true, decide_eq_true_eq] at ht'
        obtain ⟨⟨⟨i1, i2⟩, i3⟩, i4⟩ := ht'
        have hx : inB x' 0 (W - 1) = true := by simp only [inB, Bool.and_eq_true, decide_eq_true_eq]; omega
        have hy : inB (l.getD x'.toNat 0 + k) 0 (H - 1) = true := by simp only [inB, Bool.and_eq_true, decide_eq_true_eq]; omega
        rw [pixF, hx, hy]; simp
      · rw [if_neg ht, if_neg ht]
  rw [hres]
  have HI := Lib.hid h
  have HT := Lib.hid ht
  have HX := Lib.hid hx'
  subst hW
  obtain ⟨bt, offt, tc, rfl, ht1, ht2, hbt, hct⟩ := ht.some (by omega)
  have HCT := Lib.hid hct
  clear hres hz hc h ht hl hct
  by_cases hz1 : z = -1
  · subst hz1
    simp only [if_true]
    clear HTH HX hx'
    go_enter Tryz.func64, Tryz.ntmps64
    go_wp2_with fail
    go_ret
    exact ⟨rfl, (by repeat (first | (with_reducible exact Below.refl _ _) | (with_reducible assumption) | ((with_reducible refine Below.setCell ?_ ?_ _); rotate_left; (focus (first | omega | (simp; done) | (simp; omega)))) | (with_reducible refine Below.drew ?_) | (with_reducible refine below_drewN ?_ _) | ((with_reducible refine Below.alloc ?_ ?_ _); rotate_left; (focus (first | omega | (simp; done) | (simp; omega))))))⟩
  · rw [if_neg hz1]
    obtain ⟨res, hr⟩ : ∃ res, res = if thereB l.length H l x' k = true then pixF l.length H px x' (l.getD x'.toNat 0 + k) else -1 := ⟨_, rfl⟩
    rw [← hr]
    have HR := Lib.hid hr
    clear hr
    have hz0 : ¬ z < 0 := by omega
    have hzd : decide (z < 0) = false := by simpa using hz0
    have e3 : IntKind.i64.wrap (3 * s) = 3 * s := IntWalk.i64_in _ (by omega)
    have e4 : IntKind.i64.wrap (z - 3 * s) = z - 3 * s := IntWalk.i64_in _ (by omega)
    have e5 : IntKind.i64.wrap (z - 3 * s + x) = x' := by rw [hx']; exact IntWalk.i64_in _ (by omega)
    clear hx'
    go_enter Tryz.func64, Tryz.ntmps64
    go_wp2_with fail
    generalize hW0 : World.alloc (World.alloc w _) _ = W0
    have K0 : Blk W0 w.heap.size #[.int .i64 (l.length : Int), .int .i64 H, .slice a np cp] 24 := by rw [← hW0]; exact (Blk.new _ _ _).alloc _
    have G0 : Blk W0 (w.heap.size + 1) #[.int .i64 t, .int .i64 s, .int .i64 R, .slice (some ⟨bt, offt, none⟩) l.length tc, .slice (some ⟨b, off, none⟩) o.length cap] 27 := by rw [← hW0]; exact Blk.newAt _ _ (by simp)
    have hB0 : Below w.heap.size w W0 := by rw [← hW0]; exact (by repeat (first | (with_reducible exact Below.refl _ _) | (with_reducible assumption) | ((with_reducible refine Below.setCell ?_ ?_ _); rotate_left; (focus (first | omega | (simp; done) | (simp; omega)))) | (with_reducible refine Below.drew ?_) | (with_reducible refine below_drewN ?_ _) | ((with_reducible refine Below.alloc ?_ ?_ _); rotate_left; (focus (first | omega | (simp; done) | (simp; omega))))))
    have c0' := keep hB0 c0 hb
    clear hW0
    obtain ⟨k0, k1, k2, kf, klt⟩ := K0.d3
    obtain ⟨g0, g1, g2, g3, g4, gf, glt⟩ := G0.d5
    go_wp2_with fail
    go_quiet (fail)
    go_wp2_with fail
    generalize hWq : World.drewN W0 _ = W1
    have hbq : Below W0.heap.size W0 W1 := by rw [← hWq]; exact below_drewN (Below.refl _ _) _
    have hB1 := binto hB0 hbq
    have K1 := K0.keep hbq K0.lt
    have G1 := G0.keep hbq G0.lt
    clear hWq hbq
    clear K0 G0 hB0 k0 k1 k2 kf klt g0 g1 g2 g3 g4 gf glt c0 c0'
    refine (HTH.out W1 (HT.out.below hB1)).mono ?_
    rintro e w2 ⟨rfl, hb2'⟩
    have hB2 := binto hB1 hb2'
    have K2 := K1.keep hb2' K1.lt
    have G2 := G1.keep hb2' G1.lt
    clear K1 G1 hB1 hb2'
    dsimp only
    by_cases hth : thereB l.length H l x' k = true
    · rw [hth]
      have hr := HR.out
      rw [if_pos hth] at hr
      clear HR
      have ht' := hth
      simp only [thereB, inB, Bool.and_eq_true, decide_eq_true_eq] at ht'
      obtain ⟨⟨⟨i1, i2⟩, i3⟩, i4⟩ := ht'
      obtain ⟨xn, rfl⟩ : ∃ n : Nat, x' = n := ⟨x'.toNat, by omega⟩
      have hxl : xn < l.length := by omega
      have d0 := keep hB2 (HCT.out xn _ (getD_some (d := 0) hxl)) hbt
      rw [Int.toNat_natCast] at i3 i4 hr
      obtain ⟨tp, htp⟩ : ∃ tp, tp = l.getD xn 0 := ⟨_, rfl⟩
      have htb := (listOk_get hok hxl).2
      rw [← htp] at i3 i4 d0 htb hr
      obtain ⟨y, hy⟩ : ∃ y, y = tp + k := ⟨_, rfl⟩
      have HP := Lib.hid (fun wz hI => pixel_any l.length H xn y (.slice a np cp) px wz hI)
      have e6 : IntKind.i64.wrap (tp + k) = y := by rw [hy]; exact IntWalk.i64_in _ (by omega)
      have hpr := pixF_range HI.out xn y
      rw [← hy] at hr
      obtain ⟨p, hp⟩ : ∃ p, p = pixF l.length H px xn y := ⟨_, rfl⟩
      rw [← hp] at HP hpr hr
      have e7 : IntKind.i64.wrap p = p := IntWalk.i64_in _ (by omega)
      have hxi : (xn : Int) < (l.length : Int) := by omega
      obtain ⟨k0, k1, k2, kf, klt⟩ := K2.d3
      obtain ⟨g0, g1, g2, g3, g4, gf, glt⟩ := G2.d5
      have hbt2 : bt < w2.heap.size := Nat.lt_of_lt_of_le hbt hB2.size
      obtain rfl := hr
      clear htp hy hp hth i1 i2 hpr
      go_wp2_with fail
      have k0' : w2.drew.cell? ⟨w.heap.size, 0, none⟩ = some (.int .i64 l.length) := k0
      have k1' : w2.drew.cell? ⟨w.heap.size, 1, none⟩ = some (.int .i64 H) := k1
      have k2' : w2.drew.cell? ⟨w.heap.size, 2, none⟩ = some (.slice a np cp) := k2
      have g3' : w2.drew.cell? ⟨w.heap.size + 1, 3, none⟩ = some (.slice (some ⟨bt, offt, none⟩) l.length tc) := g3
      have d0' : w2.drew.cell? ⟨bt, offt + xn, none⟩ = some (.int .i64 tp) := d0
      have klt' : w.heap.size < w2.drew.heap.size := klt
      have glt' : w.heap.size + 1 < w2.drew.heap.size := glt
      have hbt' : bt < w2.drew.heap.size := hbt2
      go_region_held3 (fun w' => w'.cell? ⟨w.heap.size, 0, none⟩ = some (.int .i64 l.length) ∧ w'.cell? ⟨w.heap.size, 1, none⟩ = some (.int .i64 H) ∧ w'.cell? ⟨w.heap.size, 2, none⟩ = some (.slice a np cp) ∧ w'.cell? ⟨w.heap.size + 1, 3, none⟩ = some (.slice (some ⟨bt, offt, none⟩) l.length tc) ∧ w'.cell? ⟨bt, offt + xn, none⟩ = some (.int .i64 tp))
        (first | exact ⟨keep hbf k0' klt', keep hbf k1' klt', keep hbf k2' klt', keep hbf g3' glt', keep hbf d0' hbt'⟩ | exact ⟨k0', k1', k2', g3', d0'⟩)
        ((go_at_call 54; refine (HP.out _ (HI.out.below hB2.drew)).mono ?_; rintro e wf ⟨rfl, hbf⟩))
      all_goals go_wp2_with fail
      all_goals go_ret
      all_goals exact ⟨by simp, hB2.drew.trans (hbf.mono (hB2.drew.size))⟩
    · have hth' : thereB l.length H l x' k = false := by simpa using hth
      have hr := HR.out
      rw [if_neg hth] at hr
      subst hr
      clear HR
      rw [hth']
      go_wp2_with fail
      go_ret
      exact ⟨rfl, hB2⟩

end Go.Proofs.YtnfgedbcfclnmaaGreat

namespace Go.Proofs.YtnfgedbcfclnmaaGreat
open Go.RowKit

theorem bit_01 (b : Bool) : bit b = 0 ∨ bit b = 1 := by cases b <;> simp [bit]
theorem ruler_01 (L r c : Nat) (h : (cellF L r c).1 = 2) : (cellF L r c).2 = 0 ∨ (cellF L r c).2 = 1 := by
  revert h
  unfold cellF
  dsimp only
  split
  · intro h; simp at h
  · split
    · intro h; simp at h
    · split
      · intro h
        exfalso; revert h
        unfold innerF
        split
        · simp
        · split
          · simp
          · split <;> simp
      · split
        · intro _; exact bit_01 _
        · split
          · intro _; exact bit_01 _
          · split
            · intro _; exact bit_01 _
            · intro _; exact bit_01 _

structure AnEnv (w : World) (iv fv : Array Value) (g M : Nat) (f : CellFn) (wx : World) : Prop where
  below : Below w.heap.size w wx
  img : Blk wx w.heap.size iv 24
  frame : Blk wx (w.heap.size + 1) fv 27
  c : PBlk wx g M f
theorem AnEnv.keep {w wx w1 : World} {iv fv : Array Value} {g M : Nat} {f : CellFn} (h : AnEnv w iv fv g M f wx) (hb : Below wx.heap.size wx w1) : AnEnv w iv fv g M f w1 :=
  ⟨binto h.below hb, h.img.keep hb h.img.lt, h.frame.keep hb h.frame.lt, h.c.keep hb h.c.lt⟩

set_option maxRecDepth 100000 in
set_option maxHeartbeats 8000000 in
theorem agreeing_any (W H t s R : Int) (a : Option Addr) (np cp : Nat) (tv lv : Value) (px l o : List Int) (w : World) (h : ImgOk w W H (.slice a np cp) px) (ht : Reads (Value.int .i64) w tv l) (hl : Reads (Value.int .i64) w lv o) (hW : (l.length : Int) = W) (hok : listOk l = true)
    (hoo : ∀ k, -1 ≤ o.getD k 0 ∧ o.getD k 0 ≤ 1000000000) (hs : 3 ≤ s ∧ s ≤ 6) (hR : R = 53 ∨ R = 85) (hlen : (o.length : Int) = R * s) :
    Calls Tryz.prog 26 #[.agg #[.int .i64 W, .int .i64 H, .slice a np cp], .agg #[.int .i64 t, .int .i64 s, .int .i64 R, tv, lv]] w fun e w' => e = .returned (.tuple #[.int .i64 (agreeN W H px l o s (levN R)), .int .i64 (allN (levN R))]) ∧ Below w.heap.size w w' := by
  obtain ⟨L, hL⟩ : ∃ L, L = levN R := ⟨_, rfl⟩
  rw [← hL]
  have hL24 : L = 2 ∨ L = 4 := by rw [hL]; rcases hR with rfl | rfl; (· exact .inr rfl); (· exact .inl rfl)
  have hLR : (rowsN L : Int) = R := by rw [hL]; rcases hR with rfl | rfl <;> rfl
  have hLf : levelsOfF R = (L : Int) := by rw [hL]; rcases hR with rfl | rfl <;> rfl
  obtain ⟨M, hM⟩ : ∃ M, M = rowsN L * 58 := ⟨_, rfl⟩
  have hM5 : M ≤ 4930 := by rcases hL24 with rfl | rfl <;> simp [rowsN] at hM <;> omega
  have HPA := Lib.hid (fun wz => painted_any L wz hL24)
  rw [← hM] at HPA
  have hkx : ∀ n, n < M → (((n / 58 : Nat) : Int) * s + s / 2).toNat < o.length ∧ (((n / 58 : Nat) : Int) * s + s / 2).toNat ≤ 1000 ∧ 0 ≤ ((n % 58 : Nat) : Int) * s + s / 2 ∧ ((n % 58 : Nat) : Int) * s + s / 2 ≤ 400 := by
    intro n hn
    have hr : n / 58 < rowsN L := by omega
    have hc : n % 58 < 58 := by omega
    generalize n / 58 = r at *
    generalize n % 58 = c at *
    have h1 := Int.mul_nonneg (show (0 : Int) ≤ r by omega) (show 0 ≤ s by omega)
    have h2 := Int.mul_nonneg (show (0 : Int) ≤ c by omega) (show 0 ≤ s by omega)
    have h3 := Int.mul_le_mul_of_nonneg_right (show (r : Int) + 1 ≤ R by omega) (show 0 ≤ s by omega)
    rw [Int.add_mul] at h3
    have h4 : (r : Int) * s ≤ 84 * 6 := Int.mul_le_mul (by rcases hR with rfl | rfl <;> omega) (by omega) (by omega) (by omega)
    have h5 : (c : Int) * s ≤ 57 * 6 := Int.mul_le_mul (by omega) (by omega) (by omega) (by omega)
    omega
  have HSH := Lib.hid (fun k x wz hI hT hL hk hk2 hx => shade_any W H t s R a np cp tv lv px l o k x wz hI hT hL hW hok (hoo k) hs hk hk2 hx)
  have HKX := Lib.hid hkx
  have HI := Lib.hid h
  have HT := Lib.hid ht
  have HL := Lib.hid hl
  have HLR := Lib.hid hLR
  have HM := Lib.hid hM
  obtain ⟨ta, tc, rfl, -⟩ := id ht
  obtain ⟨la, lc, rfl, -⟩ := id hl
  have hs1 := hs.1
  have hs2 := hs.2
  clear h ht hl hs hR hW hlen hok hoo hL hLR hM hL24 hkx
  go_enter Tryz.func26, Tryz.ntmps26
  go_wp2_with fail
  generalize hW0 : World.alloc (World.alloc w _) _ = W0
  have K0 : Blk W0 w.heap.size #[.int .i64 W, .int .i64 H, .slice a np cp] 24 := by rw [← hW0]; exact (Blk.new _ _ _).alloc _
  have G0 : Blk W0 (w.heap.size + 1) #[.int .i64 t, .int .i64 s, .int .i64 R, .slice ta l.length tc, .slice la o.length lc] 27 := by rw [← hW0]; exact Blk.newAt _ _ (by simp)
  have hB0 : Below w.heap.size w W0 := by rw [← hW0]; exact (by repeat (first | (with_reducible exact Below.refl _ _) | (with_reducible assumption) | ((with_reducible refine Below.setCell ?_ ?_ _); rotate_left; (focus (first | omega | (simp; done) | (simp; omega)))) | (with_reducible refine Below.drew ?_) | (with_reducible refine below_drewN ?_ _) | ((with_reducible refine Below.alloc ?_ ?_ _); rotate_left; (focus (first | omega | (simp; done) | (simp; omega))))))
  clear hW0
  obtain ⟨g0, g1, g2, g3, g4, gf, glt⟩ := G0.d5
  go_wp2_with (go_at_call 63; refine (levelsOf_any _ _).mono ?_; rintro e w' ⟨rfl, rfl⟩; rw [hLf])
  refine (HPA.out W0).mono ?_
  rintro e w1 ⟨g, rfl, hg, hP, hb1⟩
  have E : AnEnv w #[.int .i64 W, .int .i64 H, .slice a np cp] #[.int .i64 t, .int .i64 s, .int .i64 R, .slice ta l.length tc, .slice la o.length lc] g M (fun n => cellF L (n / 58) (n % 58)) w1 := ⟨binto hB0 hb1, K0.keep hb1 K0.lt, G0.keep hb1 G0.lt, hP⟩
  clear K0 G0 hB0 hb1 hP HPA g0 g1 g2 g3 g4 gf glt hg hLf
  dsimp only
  go_wp2_with fail
  go_loopw [7, 8, 9, 10] (fun x y z _ wr => ∃ n : Nat, z = .int .i64 n ∧ n ≤ M ∧ x = .int .i64 (((List.range n).countP (agreeB W H px l o s L) : Nat) : Int) ∧ y = .int .i64 (((List.range n).countP (rulerB L) : Nat) : Int) ∧ AnEnv w #[.int .i64 W, .int .i64 H, .slice a np cp] #[.int .i64 t, .int .i64 s, .int .i64 R, .slice ta l.length tc, .slice la o.length lc] g M (fun n => cellF L (n / 58) (n % 58)) wr) (fun _ _ z _ _ => M - (intOf z).toNat)
  case atStart => exact ⟨0, rfl, by omega, rfl, rfl, E⟩
  case round =>
    clear E
    obtain ⟨n, rfl, hn, rfl, rfl, E⟩ := hrel
    obtain ⟨wb, rfl⟩ : ∃ wo : World, wo = wr := ⟨_, rfl⟩
    by_cases hnM : n < M
    · have hd1 : decide ((n : Int) < (M : Int)) = true := by simp; omega
      have hnM' : (n : Int) < (M : Int) := by omega
      obtain ⟨cA, hcA⟩ : ∃ c, c = (List.range n).countP (agreeB W H px l o s L) := ⟨_, rfl⟩
      obtain ⟨cB, hcB⟩ : ∃ c, c = (List.range n).countP (rulerB L) := ⟨_, rfl⟩
      have hA1 := countP_succ (agreeB W H px l o s L) n
      have hB1 := countP_succ (rulerB L) n
      rw [← hcA] at hA1 ⊢
      rw [← hcB] at hB1 ⊢
      have hcA5 : cA ≤ n := by rw [hcA]; exact Nat.le_trans List.countP_le_length (by simp)
      have hcB5 : cB ≤ n := by rw [hcB]; exact Nat.le_trans List.countP_le_length (by simp)
      obtain ⟨q0, q1, qf, qlt⟩ := E.c.get hnM
      have h01 := ruler_01 L (n / 58) (n % 58)
      obtain ⟨hk1, hk2, hx1, hx2⟩ := HKX.out n hnM
      have hsh := fun wz hI hT hLL => HSH.out _ _ wz hI hT hLL hk1 hk2 ⟨hx1, hx2⟩
      have hag : agreeB W H px l o s L n = ((cellF L (n / 58) (n % 58)).1 == 2 && (vThere W H l o s (((n / 58 : Nat) : Int) * s + s / 2).toNat (((n % 58 : Nat) : Int) * s + s / 2) && (decide (vShade W H px l o s (((n / 58 : Nat) : Int) * s + s / 2).toNat (((n % 58 : Nat) : Int) * s + s / 2) < 128) == ((cellF L (n / 58) (n % 58)).2 == 1)))) := rfl
      have hru : rulerB L n = ((cellF L (n / 58) (n % 58)).1 == 2) := rfl
      try dsimp only at q0 q1
      generalize hz : cellF L (n / 58) (n % 58) = z at h01 hag hru q0 q1
      obtain ⟨z1, z2⟩ := z
      dsimp only at q0 q1 h01 hag hru
      have HCELL := Lib.hid hz
      obtain ⟨r, hr⟩ : ∃ r, r = n / 58 := ⟨_, rfl⟩
      obtain ⟨c, hc⟩ : ∃ c, c = n % 58 := ⟨_, rfl⟩
      have f1 : Int.tdiv (n : Int) 58 = (r : Int) := by rw [hr]; rfl
      have f2 : Int.tmod (n : Int) 58 = (c : Int) := by rw [hc]; rfl
      rw [← hr, ← hc] at hag hsh
      rw [← hr] at hk1 hk2
      rw [← hc] at hx1 hx2
      have hc58 : c < 58 := by omega
      have hr85 : r ≤ 85 := by omega
      obtain ⟨q, hq⟩ : ∃ q, q = s / 2 := ⟨_, rfl⟩
      have h3 : Int.tdiv s 2 = q := by rw [hq, Int.tdiv_eq_ediv_of_nonneg (by omega)]
      rw [← hq] at hag hsh hk1 hk2 hx1 hx2
      have hrs0 := Int.mul_nonneg (show (0 : Int) ≤ r by omega) (show 0 ≤ s by omega)
      have hcs0 := Int.mul_nonneg (show (0 : Int) ≤ c by omega) (show 0 ≤ s by omega)
      have hrs : (r : Int) * s ≤ 85 * 6 := Int.mul_le_mul (by omega) (by omega) (by omega) (by omega)
      have hcs : (c : Int) * s ≤ 57 * 6 := Int.mul_le_mul (by omega) (by omega) (by omega) (by omega)
      obtain ⟨k, hk⟩ : ∃ k : Nat, (k : Int) = (r : Int) * s + q := ⟨((r : Int) * s + q).toNat, by omega⟩
      obtain ⟨x, hx⟩ : ∃ x : Nat, (x : Int) = (c : Int) * s + q := ⟨((c : Int) * s + q).toNat, by omega⟩
      rw [← hk, ← hx, Int.toNat_natCast] at hag hsh
      have e1 : IntKind.i64.wrap ((r : Int) * s) = (r : Int) * s := IntWalk.i64_in _ (by omega)
      have e2 : IntKind.i64.wrap ((c : Int) * s) = (c : Int) * s := IntWalk.i64_in _ (by omega)
      have e3 : IntKind.i64.wrap ((r : Int) * s + q) = (k : Int) := by rw [← hk]; exact IntWalk.i64_in _ (by omega)
      have e4 : IntKind.i64.wrap ((c : Int) * s + q) = (x : Int) := by rw [← hx]; exact IntWalk.i64_in _ (by omega)
      have e5 : IntKind.i64.wrap q = q := IntWalk.i64_in _ (by omega)
      have hw1 : IntKind.i64.wrap ((cA : Int) + 1) = ((cA + 1 : Nat) : Int) := by rw [IntWalk.i64_in _ (by omega)]; omega
      have hw2 : IntKind.i64.wrap ((cB : Int) + 1) = ((cB + 1 : Nat) : Int) := by rw [IntWalk.i64_in _ (by omega)]; omega
      have hvr : vThere W H l o s k x = true → 0 ≤ vShade W H px l o s k x ∧ vShade W H px l o s k x ≤ 255 := by
        intro _
        rw [vShade]
        split
        · omega
        · rw [shadeF]
          split
          · exact getD_byte HI.out.by1 _
          · omega
      have hsr : shadeR W H px l o s k x = if vThere W H l o s k x = true then vShade W H px l o s k x else -1 := rfl
      generalize shadeR W H px l o s k x = sh at *
      generalize vShade W H px l o s k x = vs at *
      generalize vThere W H l o s k x = tb at *
      rw [hag] at hA1
      rw [hru] at hB1
      have HSH1 := Lib.hid hsh
      have HA0 := Lib.hid hA1
      have HB0 := Lib.hid hB1
      have H01 := Lib.hid h01
      have HVR := Lib.hid hvr
      have HSR := Lib.hid hsr
      clear hsh hA1 hB1 hag hru hz hr hc hk hx hrs0 hcs0 hrs hcs hq hk1 hk2 hx1 hx2 hcA hcB h01 hvr hsr
      by_cases hz1 : z1 = 2
      · subst hz1
        have hz01 := H01.out rfl
        have hcell := HCELL.out
        have HCELL' := Lib.hid hcell
        clear HCELL hcell
        obtain ⟨k0, k1, k2, kf, klt⟩ := E.img.d3
        obtain ⟨g0, g1, g2, g3, g4, gf, glt⟩ := E.frame.d5
        have hB : (List.range (n + 1)).countP (rulerB L) = cB + 1 := by rw [HB0.out]; simp
        have HB := Lib.hid hB
        have HZ := Lib.hid hz01
        clear hB HB0 hz01
        go_wp2_with fail
        refine (HSH1.out wb (HI.out.below E.below) (HT.out.below E.below) (HL.out.below E.below)).mono ?_
        rintro e w6 ⟨rfl, hb6⟩
        have E6 := E.keep hb6
        clear E hb6 k0 k1 k2 kf klt g0 g1 g2 g3 g4 gf glt q0 q1 qf qlt
        obtain ⟨q0, q1, qf, qlt⟩ := E6.c.get hnM
        rw [HCELL'.out] at q0 q1
        dsimp only at q0 q1
        cases tb with
        | false =>
          have hsr := HSR.out
          simp only [Bool.false_eq_true, if_false] at hsr
          subst hsr
          clear HSR HVR
          have hA : (List.range (n + 1)).countP (agreeB W H px l o s L) = cA := by rw [HA0.out]; simp [*]
          have HA := Lib.hid hA
          clear hA HA0
          dsimp only
          go_wp2_with fail
          go_roundw
          case rel => exact ⟨n + 1, by go_num, by omega, by rw [HA.out], by rw [HB.out]; simp, E6⟩
          case measure => simp [intOf]; omega
        | true =>
          obtain ⟨hv0, hv255⟩ := HVR.out rfl
          have hsr := HSR.out
          simp only [if_true] at hsr
          subst hsr
          clear HSR HVR
          have d0 : decide (0 ≤ sh) = true := by simpa using hv0
          by_cases hsh : sh < 128
          · have hs1' : decide (sh < 128) = true := by simpa using hsh
            have hs2' : decide (128 ≤ sh) = false := by simp; omega
            rcases HZ.out with rfl | rfl
            · have hA : (List.range (n + 1)).countP (agreeB W H px l o s L) = cA := by rw [HA0.out]; simp [*]
              have HA := Lib.hid hA
              clear hA HA0
              dsimp only
              go_wp2_with fail
              go_roundw
              case rel => exact ⟨n + 1, by go_num, by omega, by rw [HA.out], by rw [HB.out]; simp, E6⟩
              case measure => simp [intOf]; omega
            · have hA : (List.range (n + 1)).countP (agreeB W H px l o s L) = cA + 1 := by rw [HA0.out]; simp [*]
              have HA := Lib.hid hA
              clear hA HA0
              dsimp only
              go_wp2_with fail
              go_roundw
              case rel => exact ⟨n + 1, by go_num, by omega, by rw [HA.out]; simp, by rw [HB.out]; simp, E6⟩
              case measure => simp [intOf]; omega
          · have hs1' : decide (sh < 128) = false := by simpa using hsh
            have hs2' : decide (128 ≤ sh) = true := by simp; omega
            rcases HZ.out with rfl | rfl
            · have hA : (List.range (n + 1)).countP (agreeB W H px l o s L) = cA + 1 := by rw [HA0.out]; simp [*]
              have HA := Lib.hid hA
              clear hA HA0
              dsimp only
              go_wp2_with fail
              go_roundw
              case rel => exact ⟨n + 1, by go_num, by omega, by rw [HA.out]; simp, by rw [HB.out]; simp, E6⟩
              case measure => simp [intOf]; omega
            · have hA : (List.range (n + 1)).countP (agreeB W H px l o s L) = cA := by rw [HA0.out]; simp [*]
              have HA := Lib.hid hA
              clear hA HA0
              dsimp only
              go_wp2_with fail
              go_roundw
              case rel => exact ⟨n + 1, by go_num, by omega, by rw [HA.out], by rw [HB.out]; simp, E6⟩
              case measure => simp [intOf]; omega
      · have hzb : (z1 != 2) = true := by simpa using hz1
        have hz2 : (z1 == 2) = false := by simpa using hz1
        have hA : (List.range (n + 1)).countP (agreeB W H px l o s L) = cA := by rw [HA0.out, hz2]; simp
        have hB : (List.range (n + 1)).countP (rulerB L) = cB := by rw [HB0.out, hz2]; simp
        have HA := Lib.hid hA
        have HB := Lib.hid hB
        clear hA hB hz1 hz2
        go_wp2_with fail
        go_roundw
        case rel => exact ⟨n + 1, by go_num, by omega, by rw [HA.out], by rw [HB.out], E⟩
        case measure => simp [intOf]; omega
    · obtain rfl : n = M := by omega
      have hA : agreeN W H px l o s L = (List.range n).countP (agreeB W H px l o s L) := by rw [agreeN, ← HM.out]
      have hB : allN L = (List.range n).countP (rulerB L) := by rw [allN, ← HM.out]
      generalize (List.range n).countP (agreeB W H px l o s L) = cA at *
      generalize (List.range n).countP (rulerB L) = cB at *
      have HA := Lib.hid hA
      have HB := Lib.hid hB
      have hBl := E.below
      clear hA hB
      go_wp2_with fail
      go_ret2
      exact ⟨by rw [HA.out, HB.out]; rfl, hBl⟩

end Go.Proofs.YtnfgedbcfclnmaaGreat
