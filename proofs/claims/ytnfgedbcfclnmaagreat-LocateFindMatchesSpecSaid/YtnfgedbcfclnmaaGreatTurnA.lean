/- Copies of images, white images. -/
import Derived.Test.YtnfgedbcfclnmaaGreatRepB
import Derived.Test.YtnfgedbcfclnmaaGreatLeaf
set_option linter.unusedVariables false
set_option linter.unusedSimpArgs false
namespace Go.Proofs.YtnfgedbcfclnmaaGreat
open Go.RowKit

/-- A fresh image. -/
def ImgRet (W H : Int) (px : List Int) (w : World) (e : Ending) (w' : World) : Prop :=
  ∃ g, e = .returned (.agg #[.int .i64 W, .int .i64 H, .slice (some ⟨g, 0, none⟩) px.length px.length]) ∧ w.heap.size ≤ g ∧ LBlk w' g (px.map (Value.int .u8)) 5 ∧ Below w.heap.size w w'

theorem splice_all {α : Type} {l cs : List α} (h : cs.length = l.length) : splice l 0 cs = cs := by
  unfold splice
  simp [h]

set_option maxRecDepth 100000 in
set_option maxHeartbeats 2000000 in
theorem copyOf_any (W H : Int) (a : Option Addr) (np cp : Nat) (px : List Int) (w : World) (h : ImgOk w W H (.slice a np cp) px) :
    Calls Tryz.prog 31 #[.agg #[.int .i64 W, .int .i64 H, .slice a np cp]] w (ImgRet W H px w) := by
  have hlen := h.len
  have hWH : 1 ≤ W * H ∧ W * H ≤ 409600 := by
    have := Int.mul_le_mul h.w2 h.h2 (by have := h.h1; omega) (by omega)
    have := Int.mul_le_mul h.w1 h.h1 (by omega) (by have := h.w1; omega)
    omega
  obtain ⟨pb, po, pc, he, hp1, hp2, hpb, hpc⟩ := h.rd.some (by omega)
  injection he with e1 e2 e3
  subst e1 e2 e3
  have hn1 : 1 ≤ px.length ∧ px.length ≤ 409600 := by omega
  obtain ⟨W1, hW1⟩ : ∃ W1, W1 = ((w.alloc (.cells #[.int .i64 W, .int .i64 H, .slice (some ⟨pb, po, none⟩) px.length cp] 24)).alloc (.cells #[.int .i64 0, .int .i64 0, .slice none 0 0] 24)).alloc (.cells (List.replicate px.length (Value.int .u8 0)).toArray 5) := ⟨_, rfl⟩
  have hB1 : Below w.heap.size w W1 := by rw [hW1]; exact (by repeat (first | (with_reducible exact Below.refl _ _) | (with_reducible assumption) | ((with_reducible refine Below.setCell ?_ ?_ _); rotate_left; (focus (first | omega | (simp; done) | (simp; omega)))) | (with_reducible refine Below.drew ?_) | (with_reducible refine below_drewN ?_ _) | ((with_reducible refine Below.alloc ?_ ?_ _); rotate_left; (focus (first | omega | (simp; done) | (simp; omega))))))
  have hL1 : LBlk W1 (w.heap.size + 1 + 1) (List.replicate px.length (.int .u8 0)) 5 := by rw [hW1]; exact Blk.newAt _ _ (by simp)
  have Q1 : CopyOk (px.map (Value.int .u8)) px.length px.length 0 (List.replicate px.length (Value.int .u8 0)).length := ⟨by simp, by simp, fun v hv => by obtain ⟨x, -, rfl⟩ := List.mem_map.1 hv; rfl⟩
  have Q2 : SrcList W1 (some ⟨pb, po, none⟩) (px.map (Value.int .u8)) := ⟨_, rfl, fun j v hv => by
    rw [List.getElem?_map, Option.map_eq_some_iff] at hv
    obtain ⟨x, hx, rfl⟩ := hv
    rw [Addr.add_lit]
    exact keep hB1 (hpc j x hx) hpb⟩
  have hK1 : Blk W1 w.heap.size #[.int .i64 W, .int .i64 H, .slice (some ⟨pb, po, none⟩) px.length cp] 24 := by rw [hW1]; exact ((Blk.new _ _ _).alloc _).alloc _
  have hR1 : Blk W1 (w.heap.size + 1) #[.int .i64 0, .int .i64 0, .slice none 0 0] 24 := by rw [hW1]; exact (Blk.newAt _ _ (by simp)).alloc _
  obtain ⟨k0, k1, k2, kf, klt⟩ := hK1.d3
  have K1 := Lib.hid hK1
  have R1 := Lib.hid hR1
  have HW1 := Lib.hid hW1
  clear hK1 hR1
  have HL1 := Lib.hid hL1
  have HB1 := Lib.hid hB1
  clear hW1 hL1 hB1 hpc hlen hWH h
  go_enter Tryz.func31, Tryz.ntmps31
  go_wp2_with (first | (at_make; refine wp_make1 _ rfl _ _ 22 rfl 5 (.int .u8 0) 1 Tryz.underlying22 Tryz.infoByte rfl (by decide) _ px.length rfl rfl rfl (by omega) ?_; rw [← HW1.out]) | (refine wp_copyL rfl _ _ 22 22 rfl 5 Tryz.underlying22 Tryz.infoB1 (w.heap.size + 1 + 1) 0 _ _ _ _ _ rfl rfl _ 5 HL1.out _ Q1 Q2 (w.heap.size + 1 + 1) W1 (Below.refl _ _) (Nat.le_refl _) ?_))
  intro w2 hL2 hB2
  rw [splice_all (by simp)] at hL2
  have hB := HB1.out.trans (hB2.mono (by omega))
  have hK2 := K1.out.keep hB2 (by omega)
  have hR2 := R1.out.keep hB2 (by omega)
  obtain ⟨k0, k1, k2, kf, klt⟩ := hK2.d3
  obtain ⟨r0, r1, r2, rf, rlt⟩ := hR2.d3
  clear Q1 Q2 HL1 HB1 HW1 hB2 hK2 hR2
  go_wp2_with fail
  have hg := hL2.lt
  refine bodyPost_ret (v := .agg #[.int .i64 W, .int .i64 H, .slice (some ⟨w.heap.size + 1 + 1, 0, none⟩) px.length px.length]) (by simp [results, Tryz.results31, go_sem, r0, r1, r2, rf, rlt]) rfl ⟨w.heap.size + 1 + 1, ?_, by omega, ?_, (by repeat (first | (with_reducible exact Below.refl _ _) | (with_reducible assumption) | ((with_reducible refine Below.setCell ?_ ?_ _); rotate_left; (focus (first | omega | (simp; done) | (simp; omega)))) | (with_reducible refine Below.drew ?_) | (with_reducible refine below_drewN ?_ _) | ((with_reducible refine Below.alloc ?_ ?_ _); rotate_left; (focus (first | omega | (simp; done) | (simp; omega))))))⟩
  · rfl
  · exact ((hL2.set_other (by simp) _).set_other (by simp) _).set_other (by simp) _

set_option maxRecDepth 100000 in
set_option maxHeartbeats 2000000 in
theorem blank_any (W H N : Nat) (w : World) (hN : W * H = N) (hN1 : 1 ≤ N) (hN2 : N ≤ 409600) (hW : W ≤ 640) (hH : H ≤ 640) :
    Calls Tryz.prog 66 #[.int .i64 W, .int .i64 H] w (ImgRet W H (List.replicate N 255) w) := by
  have hmul : IntKind.i64.wrap ((W : Int) * (H : Int)) = (N : Int) := by
    rw [← hN, Int.natCast_mul]
    refine IntWalk.i64_in _ ?_
    rw [← Int.natCast_mul, hN]; omega
  clear hN
  go_enter Tryz.func66, Tryz.ntmps66
  go_wp2_with fail
  generalize hW0 : World.alloc w _ = W0
  have hs0 : W0.heap.size = w.heap.size + 1 := by rw [← hW0]; simp
  have R0 : Blk W0 w.heap.size #[.int .i64 0, .int .i64 0, .slice none 0 0] 24 := by rw [← hW0]; exact Blk.new _ _ _
  have hB0 : Below w.heap.size w W0 := by rw [← hW0]; exact (by repeat (first | (with_reducible exact Below.refl _ _) | (with_reducible assumption) | ((with_reducible refine Below.setCell ?_ ?_ _); rotate_left; (focus (first | omega | (simp; done) | (simp; omega)))) | (with_reducible refine Below.drew ?_) | (with_reducible refine below_drewN ?_ _) | ((with_reducible refine Below.alloc ?_ ?_ _); rotate_left; (focus (first | omega | (simp; done) | (simp; omega))))))
  clear hW0
  refine (repeatB (x := 255) (b := w.heap.size + 1) (N := N) (Blk.newAt _ _ hs0.symm) (by omega) (by omega)).mono ?_
  rintro e w5 ⟨g, he, hge, hT, hb5⟩
  rw [List.length_replicate] at he
  subst he
  have hb5' := binto (below_alloc W0 _) hb5
  have R5 := R0.keep hb5' R0.lt
  have hB5 := binto hB0 hb5'
  obtain ⟨r0, r1, r2, rf, rlt⟩ := R5.d3
  have hge' : w.heap.size + 1 < g := by simp at hge; omega
  clear R0 hB0 hb5 hb5' hge
  go_wp2_with fail
  have hg := hT.lt
  refine bodyPost_ret (v := .agg #[.int .i64 W, .int .i64 H, .slice (some ⟨g, 0, none⟩) N N]) (by simp [results, Tryz.results66, go_sem, r0, r1, r2, rf, rlt]) rfl ⟨g, ?_, by omega, ?_, (by repeat (first | (with_reducible exact Below.refl _ _) | (with_reducible assumption) | ((with_reducible refine Below.setCell ?_ ?_ _); rotate_left; (focus (first | omega | (simp; done) | (simp; omega)))) | (with_reducible refine Below.drew ?_) | (with_reducible refine below_drewN ?_ _) | ((with_reducible refine Below.alloc ?_ ?_ _); rotate_left; (focus (first | omega | (simp; done) | (simp; omega))))))⟩
  · rw [List.length_replicate]
  · rw [List.map_replicate]
    exact ((hT.set_other (by simp; omega) _).set_other (by simp; omega) _).set_other (by simp; omega) _

/-- The image's list, turned by a quarter: the pixel at place m comes from place quaS m. -/
def quaS (W H m : Nat) : Nat := (H - 1 - m % H) * W + m / H
def quaL (W H : Nat) (px : List Int) : List Int := (List.range (W * H)).map fun m => px.getD (quaS W H m) 0
def quaTo (W H : Nat) (px : List Int) (k : Nat) : List Int := (List.range (W * H)).map fun m => if quaS W H m < k then px.getD (quaS W H m) 0 else 255
def quaD (W H n : Nat) : Nat := (n % W) * H + (H - 1 - n / W)

theorem qcore {H q r : Nat} (hq : q < H) : (r * H + q) % H = q ∧ (r * H + q) / H = r := by
  constructor
  · rw [Nat.mul_comm, Nat.mul_add_mod]; exact Nat.mod_eq_of_lt hq
  · rw [Nat.mul_comm, Nat.mul_add_div (by omega), Nat.div_eq_of_lt hq, Nat.add_zero]
theorem qlt {W H r q : Nat} (hr : r < W) (hq : q < H) : r * H + q < W * H := by
  calc r * H + q < r * H + H := by omega
    _ = (r + 1) * H := by rw [Nat.succ_mul]
    _ ≤ W * H := Nat.mul_le_mul_right _ hr
theorem qparts {W H n : Nat} (hn : n < W * H) : 0 < W ∧ 0 < H ∧ n / W < H ∧ n % W < W ∧ n / H < W ∧ n % H < H := by
  have hW : 0 < W := by rcases Nat.eq_zero_or_pos W with h | h; (· subst h; simp at hn); (· exact h)
  have hH : 0 < H := by rcases Nat.eq_zero_or_pos H with h | h; (· subst h; simp at hn); (· exact h)
  exact ⟨hW, hH, (Nat.div_lt_iff_lt_mul hW).2 (by rw [Nat.mul_comm]; exact hn), Nat.mod_lt _ hW, (Nat.div_lt_iff_lt_mul hH).2 hn, Nat.mod_lt _ hH⟩
theorem qsub {H q : Nat} (h : q < H) : H - 1 - q < H ∧ H - 1 - (H - 1 - q) = q := by omega
theorem quaS_lt {W H m : Nat} (hm : m < W * H) : quaS W H m < W * H := by
  obtain ⟨h1, h2, h3, h4, h5, h6⟩ := qparts hm
  rw [Nat.mul_comm W H]
  exact qlt (qsub h6).1 h5
theorem quaS_D {W H n : Nat} (hn : n < W * H) : quaS W H (quaD W H n) = n := by
  obtain ⟨h1, h2, h3, h4, h5, h6⟩ := qparts hn
  have hc := qcore (r := n % W) (qsub h3).1
  unfold quaS quaD
  rw [hc.1, hc.2, (qsub h3).2]
  exact Nat.div_add_mod' n W
theorem quaD_lt {W H n : Nat} (hn : n < W * H) : quaD W H n < W * H := by
  obtain ⟨h1, h2, h3, h4, h5, h6⟩ := qparts hn
  exact qlt h4 (qsub h3).1
theorem quaD_S {W H m : Nat} (hm : m < W * H) : quaD W H (quaS W H m) = m := by
  obtain ⟨h1, h2, h3, h4, h5, h6⟩ := qparts hm
  have hc := qcore (r := H - 1 - m % H) h5
  unfold quaS quaD
  rw [hc.1, hc.2, (qsub h6).2]
  exact Nat.div_add_mod' m H
theorem quaTo_succ {W H n : Nat} {px : List Int} (hn : n < W * H) : (quaTo W H px n).set (quaD W H n) (px.getD n 0) = quaTo W H px (n + 1) := by
  apply List.ext_getElem
  · simp [quaTo]
  · intro m h1 h2
    have hm : m < W * H := by simpa [quaTo] using h2
    simp only [quaTo, List.getElem_set, List.getElem_map, List.getElem_range]
    by_cases e : quaD W H n = m
    · rw [if_pos e]
      have : quaS W H m = n := by rw [← e, quaS_D hn]
      rw [this, if_pos (by omega)]
    · rw [if_neg e]
      have hne : quaS W H m ≠ n := fun h => e (by rw [← h, quaD_S hm])
      by_cases hlt : quaS W H m < n
      · rw [if_pos hlt, if_pos (by omega)]
      · rw [if_neg hlt, if_neg (by omega)]
theorem quaTo_zero (W H : Nat) (px : List Int) : quaTo W H px 0 = List.replicate (W * H) 255 := by
  apply List.ext_getElem
  · simp [quaTo]
  · intro m h1 h2; simp [quaTo]
theorem quaTo_all (W H : Nat) (px : List Int) : quaTo W H px (W * H) = quaL W H px := by
  apply List.ext_getElem
  · simp [quaTo, quaL]
  · intro m h1 h2
    have hm : m < W * H := by simpa [quaL] using h2
    simp only [quaTo, quaL, List.getElem_map, List.getElem_range]
    rw [if_pos (quaS_lt hm)]
theorem quaTo_len (W H : Nat) (px : List Int) (k : Nat) : (quaTo W H px k).length = W * H := by simp [quaTo]
theorem quaL_len (W H : Nat) (px : List Int) : (quaL W H px).length = W * H := by simp [quaL]

end Go.Proofs.YtnfgedbcfclnmaaGreat
