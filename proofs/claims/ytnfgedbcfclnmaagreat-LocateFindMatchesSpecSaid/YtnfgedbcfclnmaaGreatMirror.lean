/- The walk of distort.mirror. -/
import Derived.Test.YtnfgedbcfclnmaaGreatQuarter
import Derived.Test.YtnfgedbcfclnmaaGreatReverse
set_option linter.unusedVariables false
set_option linter.unusedSimpArgs false
namespace Go.Proofs.YtnfgedbcfclnmaaGreat
open Go.RowKit

def mirS (W m : Nat) : Nat := m / W * W + (W - 1 - m % W)
def mirL (W H : Nat) (px : List Int) : List Int := (List.range (W * H)).map fun m => px.getD (mirS W m) 0
def mirTo (W H : Nat) (px : List Int) (k : Nat) : List Int := (List.range (W * H)).map fun m => if m / W < k then px.getD (mirS W m) 0 else px.getD m 0
theorem mirTo_len (W H : Nat) (px : List Int) (k : Nat) : (mirTo W H px k).length = W * H := by simp [mirTo]
theorem mirL_len (W H : Nat) (px : List Int) : (mirL W H px).length = W * H := by simp [mirL]
theorem mirTo_zero {W H : Nat} {px : List Int} (h : px.length = W * H) : mirTo W H px 0 = px := by
  apply List.ext_getElem
  · simp [mirTo, h]
  · intro m h1 h2
    simp only [mirTo, List.getElem_map, List.getElem_range]
    rw [if_neg (Nat.not_lt_zero _)]
    simp [List.getD, h2]
theorem mirTo_all (W H : Nat) (px : List Int) : mirTo W H px H = mirL W H px := by
  apply List.ext_getElem
  · simp [mirTo, mirL]
  · intro m h1 h2
    have hm : m < W * H := by simpa [mirL] using h2
    simp only [mirTo, mirL, List.getElem_map, List.getElem_range]
    rw [if_pos (qparts hm).2.2.1]
theorem mirTo_succ {W H k : Nat} {px : List Int} (hW : 0 < W) (hk : k < H) : revL (mirTo W H px k) (k * W) W = mirTo W H px (k + 1) := by
  apply List.ext_getElem
  · simp [mirTo, revL]
  · intro m h1 h2
    have hm : m < W * H := by simpa [mirTo] using h2
    have hget : ∀ i, i < W * H → (mirTo W H px k).getD i 0 = if i / W < k then px.getD (mirS W i) 0 else px.getD i 0 := fun i hi => by
      rw [List.getD, List.getElem?_eq_getElem (by rw [mirTo_len]; exact hi)]
      simp [mirTo]
    simp only [revL, List.getElem_map, List.getElem_range, mirTo_len]
    have hr : ((mirTo W H px (k + 1))[m]'h2) = if m / W < k + 1 then px.getD (mirS W m) 0 else px.getD m 0 := by simp [mirTo]
    rw [hr]
    have hd := Nat.div_add_mod' m W
    have hmod := Nat.mod_lt m hW
    by_cases e : m / W = k
    · rw [e] at hd
      have hin : k * W ≤ m ∧ m < k * W + W := by omega
      have hsub : m - k * W = m % W := by omega
      have hlt : k * W + (W - 1 - m % W) < W * H := by
        have := Nat.mul_le_mul_right W (show k + 1 ≤ H from hk)
        rw [Nat.succ_mul, Nat.mul_comm H W] at this
        omega
      have hdiv : (k * W + (W - 1 - m % W)) / W = k := (qcore (H := W) (q := W - 1 - m % W) (r := k) (by omega)).2
      rw [if_pos hin, hsub, hget _ hlt, hdiv, if_neg (by omega), if_pos (by omega), mirS, e]
    · have hout : ¬ (k * W ≤ m ∧ m < k * W + W) := fun ⟨ha, hb⟩ => e (by
        apply Nat.div_eq_of_lt_le
        · exact ha
        · rw [Nat.succ_mul]; exact hb)
      rw [if_neg hout, hget _ hm]
      by_cases e2 : m / W < k
      · rw [if_pos e2, if_pos (by omega)]
      · rw [if_neg e2, if_neg (by omega)]

structure MiEnv (w : World) (W H : Nat) (pv : Value) (bO g N : Nat) (cur : List Int) (wx : World) : Prop where
  below : Below w.heap.size w wx
  img : Blk wx w.heap.size #[.int .i64 W, .int .i64 H, pv] 24
  res : Blk wx (w.heap.size + 1) #[.int .i64 0, .int .i64 0, .slice none 0 0] 24
  o : Blk wx bO #[.int .i64 W, .int .i64 H, .slice (some ⟨g, 0, none⟩) N N] 24
  px : LBlk wx g (cur.map (Value.int .u8)) 5
  hO : g < bO
  hg : w.heap.size + 1 < g

set_option maxRecDepth 100000 in
set_option maxHeartbeats 4000000 in
theorem mirror_any (W H : Nat) (a : Option Addr) (np cp : Nat) (px : List Int) (w : World) (h : ImgOk w W H (.slice a np cp) px) :
    Calls Tryz.prog 32 #[.agg #[.int .i64 W, .int .i64 H, .slice a np cp]] w (ImgRet W H (mirL W H px) w) := by
  have h1 := h.w1
  have h2 := h.w2
  have h3 := h.h1
  have h4 := h.h2
  have hlen : px.length = W * H := by have := h.len; rw [← Int.natCast_mul] at this; omega
  have hWH : 1 ≤ W * H ∧ W * H ≤ 409600 := by
    have := Nat.mul_le_mul (show W ≤ 640 by omega) (show H ≤ 640 by omega)
    have := Nat.mul_le_mul (show 1 ≤ W by omega) (show 1 ≤ H by omega)
    omega
  obtain ⟨N, hN⟩ : ∃ N, N = W * H := ⟨_, rfl⟩
  have hnp : px.length = N := by rw [hlen, hN]
  have hql : (mirL W H px).length = N := by rw [mirL_len, hN]
  rw [← hN] at hWH
  have HI := Lib.hid h
  have HNP := Lib.hid hnp
  have HLEN := Lib.hid hlen
  have HN := Lib.hid hN
  have HQL := Lib.hid hql
  clear h hlen hN hnp hql
  go_enter Tryz.func32, Tryz.ntmps32
  go_wp2_with fail
  generalize hW0 : World.alloc (World.alloc w _) _ = W0
  have K0 : Blk W0 w.heap.size #[.int .i64 W, .int .i64 H, .slice a np cp] 24 := by rw [← hW0]; exact (Blk.new _ _ _).alloc _
  have R0 : Blk W0 (w.heap.size + 1) #[.int .i64 0, .int .i64 0, .slice none 0 0] 24 := by rw [← hW0]; exact Blk.newAt _ _ (by simp)
  have hB0 : Below w.heap.size w W0 := by rw [← hW0]; exact (by repeat (first | (with_reducible exact Below.refl _ _) | (with_reducible assumption) | ((with_reducible refine Below.setCell ?_ ?_ _); rotate_left; (focus (first | omega | (simp; done) | (simp; omega)))) | (with_reducible refine Below.drew ?_) | (with_reducible refine below_drewN ?_ _) | ((with_reducible refine Below.alloc ?_ ?_ _); rotate_left; (focus (first | omega | (simp; done) | (simp; omega))))))
  clear hW0
  obtain ⟨k0, k1, k2, kf, klt⟩ := K0.d3
  go_wp2_with fail
  refine (copyOf_any W H a np cp px W0 (HI.out.below hB0)).mono ?_
  rintro e w1 ⟨g, he, hg, hL, hb1⟩
  rw [HNP.out] at he
  subst he
  have K1 := K0.keep hb1 K0.lt
  have R1 := R0.keep hb1 R0.lt
  have hB1 := binto hB0 hb1
  have hrl := R0.lt
  have hL' : LBlk w1 g ((mirTo W H px 0).map (Value.int .u8)) 5 := by rw [mirTo_zero HLEN.out]; exact hL
  clear k0 k1 k2 kf klt K0 R0 hB0 hb1 hL
  obtain ⟨k0, k1, k2, kf, klt⟩ := K1.d3
  dsimp only
  go_wp2_with fail
  generalize hW2 : World.alloc w1 _ = W2
  have E2 : MiEnv w W H (.slice a np cp) w1.heap.size g N (mirTo W H px 0) W2 := by
    rw [← hW2]
    exact ⟨hB1.trans (by repeat (first | (with_reducible exact Below.refl _ _) | (with_reducible assumption) | ((with_reducible refine Below.setCell ?_ ?_ _); rotate_left; (focus (first | omega | (simp; done) | (simp; omega)))) | (with_reducible refine Below.drew ?_) | (with_reducible refine below_drewN ?_ _) | ((with_reducible refine Below.alloc ?_ ?_ _); rotate_left; (focus (first | omega | (simp; done) | (simp; omega)))))), K1.alloc _, R1.alloc _, Blk.new _ _ _, hL'.alloc _, hL'.lt, by omega⟩
  obtain ⟨bO, hbO⟩ : ∃ bO, bO = w1.heap.size := ⟨_, rfl⟩
  rw [← hbO] at E2 ⊢
  clear hW2 K1 R1 hB1 hL' k0 k1 k2 kf klt hbO hrl hg
  go_loopw [9] (fun x wr => ∃ k : Nat, x = .int .i64 k ∧ k ≤ H ∧ MiEnv w W H (.slice a np cp) bO g N (mirTo W H px k) wr) (fun x _ => H - (intOf x).toNat)
  case atStart => exact ⟨0, rfl, by omega, E2⟩
  case round =>
    clear E2
    obtain ⟨k, rfl, hk, E⟩ := hrel
    obtain ⟨wb, rfl⟩ : ∃ wo : World, wo = wr := ⟨_, rfl⟩
    by_cases hkN : k < H
    · have hd1 : decide ((k : Int) < (H : Int)) = true := by simp; omega
      obtain ⟨k0, k1, k2, kf, klt⟩ := E.img.d3
      obtain ⟨o0, o1, o2, of, olt⟩ := E.o.d3
      obtain ⟨p, hp⟩ : ∃ p, p = k * W := ⟨_, rfl⟩
      have hpN : p + W ≤ N := by
        have := Nat.mul_le_mul_right W (show k + 1 ≤ H from hkN)
        rw [Nat.succ_mul, Nat.mul_comm H W] at this
        rw [hp, HN.out]; exact this
      have hr1 : IntKind.i64.wrap ((k : Int) * (W : Int)) = p := by rw [← Int.natCast_mul, ← hp]; exact IntWalk.i64_in _ (by omega)
      have hr2 : IntKind.i64.wrap (((k : Int) + 1) * (W : Int)) = ((p + W : Nat) : Int) := by
        have e : ((k : Int) + 1) * (W : Int) = ((p + W : Nat) : Int) := by rw [Int.add_mul, Int.one_mul, hp]; simp
        rw [e]; exact IntWalk.i64_in _ (by omega)
      obtain ⟨q, hq⟩ : ∃ q, q = p + W := ⟨_, rfl⟩
      have hNp : ¬ (N - p = 0) := by omega
      have hpW : p + W ≤ N := hpN
      rw [← hq] at hr2 hpN
      have hqs : q - p = W := by omega
      have hpq : (p : Int) ≤ (q : Int) := by omega
      have hqN : (q : Int) ≤ (N : Int) := by omega
      have hset := mirTo_succ (px := px) (show 0 < W by omega) hkN
      rw [← hp] at hset
      have HSET := Lib.hid hset
      have HQS := Lib.hid hqs
      clear hset hp hq hqs
      go_wp2_with fail
      rw [HQS.out]
      refine (reverse_any (mirTo W H px k) g p W (N - p) wb E.px (by omega) (by omega) (by rw [mirTo_len, ← HN.out]; omega) (by rw [mirTo_len, ← HN.out]; omega)).mono ?_
      rintro e w7 ⟨rfl, hL7, hb7⟩
      rw [HSET.out] at hL7
      have hg := E.hg
      have hO := E.hO
      have hol := E.o.lt
      have E7 : MiEnv w W H (.slice a np cp) bO g N (mirTo W H px (k + 1)) w7 := ⟨E.below.grown hb7 E.below.size (by intro j hj; injection hj with hj; omega), E.img.grown hb7 (by simp; omega), E.res.grown hb7 (by simp; omega), E.o.grown hb7 (by simp; omega), hL7, hO, hg⟩
      clear E hL7 hb7 hg hO hol
      dsimp only
      go_wp2_with fail
      go_roundw
      case rel => exact ⟨k + 1, by go_num, by omega, E7⟩
      case measure => simp [intOf]; omega
    · obtain rfl : k = H := by omega
      rw [mirTo_all] at E
      obtain ⟨o0, o1, o2, of, olt⟩ := E.o.d3
      obtain ⟨r0, r1, r2, rf, rlt⟩ := E.res.d3
      have hB := E.below
      have hg := E.hg
      have hL := E.px
      have hgl := hL.lt
      go_wp2_with fail
      refine bodyPost_ret (v := .agg #[.int .i64 W, .int .i64 k, .slice (some ⟨g, 0, none⟩) N N]) (by simp [results, Tryz.results32, go_sem, r0, r1, r2, rf, rlt]) rfl ⟨g, ?_, by omega, ?_, (by repeat (first | (with_reducible exact Below.refl _ _) | (with_reducible assumption) | ((with_reducible refine Below.setCell ?_ ?_ _); rotate_left; (focus (first | omega | (simp; done) | (simp; omega)))) | (with_reducible refine Below.drew ?_) | (with_reducible refine below_drewN ?_ _) | ((with_reducible refine Below.alloc ?_ ?_ _); rotate_left; (focus (first | omega | (simp; done) | (simp; omega))))))⟩
      · rw [HQL.out]
      · exact ((hL.set_other (by simp; omega) _).set_other (by simp; omega) _).set_other (by simp; omega) _

end Go.Proofs.YtnfgedbcfclnmaaGreat
