/- The walk of distort.quarter. -/
import Derived.Test.YtnfgedbcfclnmaaGreatTurnA
set_option linter.unusedVariables false
set_option linter.unusedSimpArgs false
namespace Go.Proofs.YtnfgedbcfclnmaaGreat
open Go.RowKit

structure QuEnv (w : World) (W H : Nat) (pv : Value) (bO g N : Nat) (cur : List Int) (wx : World) : Prop where
  below : Below w.heap.size w wx
  img : Blk wx w.heap.size #[.int .i64 W, .int .i64 H, pv] 24
  res : Blk wx (w.heap.size + 1) #[.int .i64 0, .int .i64 0, .slice none 0 0] 24
  o : Blk wx bO #[.int .i64 H, .int .i64 W, .slice (some ⟨g, 0, none⟩) N N] 24
  px : LBlk wx g (cur.map (Value.int .u8)) 5
  hO : w.heap.size + 1 < bO
  hg : w.heap.size + 1 < g
  hne : bO ≠ g
theorem QuEnv.set {w wx : World} {W H : Nat} {pv : Value} {bO g N : Nat} {cur : List Int} (h : QuEnv w W H pv bO g N cur wx) (i : Nat) (v : Int) : QuEnv w W H pv bO g N (cur.set i v) (wx.setCell ⟨g, i, none⟩ (.int .u8 v)) := by
  have hg := h.hg
  have hO := h.hO
  have hne := h.hne
  refine ⟨h.below.setCell (show w.heap.size ≤ g by omega) _, h.img.set_other (by simp; omega) _, h.res.set_other (by simp; omega) _, h.o.set_other (by simpa using hne) _, ?_, hO, hg, hne⟩
  rw [List.map_set]
  exact h.px.set _
theorem QuEnv.keep {w wx w1 : World} {W H : Nat} {pv : Value} {bO g N : Nat} {cur : List Int} (h : QuEnv w W H pv bO g N cur wx) (hb : Below wx.heap.size wx w1) : QuEnv w W H pv bO g N cur w1 :=
  ⟨binto h.below hb, h.img.keep hb h.img.lt, h.res.keep hb h.res.lt, h.o.keep hb h.o.lt, h.px.keep hb h.px.lt, h.hO, h.hg, h.hne⟩

set_option maxRecDepth 100000 in
set_option maxHeartbeats 4000000 in
theorem quarter_any (W H : Nat) (a : Option Addr) (np cp : Nat) (px : List Int) (w : World) (h : ImgOk w W H (.slice a np cp) px) :
    Calls Tryz.prog 33 #[.agg #[.int .i64 W, .int .i64 H, .slice a np cp]] w (ImgRet H W (quaL W H px) w) := by
  have h1 := h.w1
  have h2 := h.w2
  have h3 := h.h1
  have h4 := h.h2
  have hlen : px.length = W * H := by have := h.len; rw [← Int.natCast_mul] at this; omega
  have hWH : 1 ≤ W * H ∧ W * H ≤ 409600 := by
    have := Nat.mul_le_mul (show W ≤ 640 by omega) (show H ≤ 640 by omega)
    have := Nat.mul_le_mul (show 1 ≤ W by omega) (show 1 ≤ H by omega)
    omega
  obtain ⟨N, hN⟩ : ∃ N, N = W * H := ⟨_, rfl⟩
  obtain ⟨pb, po, pc, he, hp1, hp2, hpb, hpc⟩ := h.rd.some (by omega)
  injection he with e1 e2 e3
  subst e1 e2 e3
  have hq : quaL W H px = quaTo W H px N := by rw [hN, quaTo_all]
  have hql : (quaL W H px).length = N := by rw [quaL_len, hN]
  have hnp : px.length = N := by rw [hlen, hN]
  rw [← hN] at hWH
  rw [hnp] at hp1 ⊢
  have HPC := Lib.hid hpc
  have HI := Lib.hid h
  have HNP := Lib.hid hnp
  have HN := Lib.hid hN
  have HQ := Lib.hid hq
  have HQL := Lib.hid hql
  clear hpc h hlen hN hnp hq hql
  go_enter Tryz.func33, Tryz.ntmps33
  go_wp2_with fail
  generalize hW0 : World.alloc (World.alloc w _) _ = W0
  have K0 : Blk W0 w.heap.size #[.int .i64 W, .int .i64 H, .slice (some ⟨pb, po, none⟩) N cp] 24 := by rw [← hW0]; exact (Blk.new _ _ _).alloc _
  have R0 : Blk W0 (w.heap.size + 1) #[.int .i64 0, .int .i64 0, .slice none 0 0] 24 := by rw [← hW0]; exact Blk.newAt _ _ (by simp)
  have hB0 : Below w.heap.size w W0 := by rw [← hW0]; exact (by repeat (first | (with_reducible exact Below.refl _ _) | (with_reducible assumption) | ((with_reducible refine Below.setCell ?_ ?_ _); rotate_left; (focus (first | omega | (simp; done) | (simp; omega)))) | (with_reducible refine Below.drew ?_) | (with_reducible refine below_drewN ?_ _) | ((with_reducible refine Below.alloc ?_ ?_ _); rotate_left; (focus (first | omega | (simp; done) | (simp; omega))))))
  clear hW0
  obtain ⟨k0, k1, k2, kf, klt⟩ := K0.d3
  go_wp2_with fail
  refine (blank_any H W N W0 (by rw [HN.out, Nat.mul_comm]) (by omega) (by omega) (by omega) (by omega)).mono ?_
  rintro e w1 ⟨g, he, hg, hL, hb1⟩
  rw [List.length_replicate] at he
  subst he
  have K1 := K0.keep hb1 K0.lt
  have R1 := R0.keep hb1 R0.lt
  have hB1 := binto hB0 hb1
  have hrl := R0.lt
  have hbsz := hb1.size
  have hL' : LBlk w1 g ((quaTo W H px 0).map (Value.int .u8)) 5 := by rw [quaTo_zero, ← HN.out]; exact hL
  clear k0 k1 k2 kf klt K0 R0 hB0 hb1 hL
  obtain ⟨k0, k1, k2, kf, klt⟩ := K1.d3
  dsimp only
  go_wp2_with fail
  generalize hW2 : World.alloc w1 _ = W2
  have hs2 : W2.heap.size = w1.heap.size + 1 := by rw [← hW2]; simp
  have hsz := hbsz
  have E2 : QuEnv w W H (.slice (some ⟨pb, po, none⟩) N cp) w1.heap.size g N (quaTo W H px 0) W2 := by
    rw [← hW2]
    exact ⟨hB1.trans (by repeat (first | (with_reducible exact Below.refl _ _) | (with_reducible assumption) | ((with_reducible refine Below.setCell ?_ ?_ _); rotate_left; (focus (first | omega | (simp; done) | (simp; omega)))) | (with_reducible refine Below.drew ?_) | (with_reducible refine below_drewN ?_ _) | ((with_reducible refine Below.alloc ?_ ?_ _); rotate_left; (focus (first | omega | (simp; done) | (simp; omega)))))), K1.alloc _, R1.alloc _, Blk.new _ _ _, hL'.alloc _, by omega, by omega, by have := hL'.lt; omega⟩
  obtain ⟨bO, hbO⟩ : ∃ bO, bO = w1.heap.size := ⟨_, rfl⟩
  rw [← hbO] at E2 ⊢
  clear hW2 K1 R1 hB1 hL' hs2 hsz k0 k1 k2 kf klt hbO hrl hg
  go_loopw [16] (fun x wr => ∃ k : Nat, x = .int .i64 k ∧ k ≤ N ∧ QuEnv w W H (.slice (some ⟨pb, po, none⟩) N cp) bO g N (quaTo W H px k) wr) (fun x _ => N - (intOf x).toNat)
  case atStart => exact ⟨0, rfl, by omega, E2⟩
  case round =>
    clear E2
    obtain ⟨k, rfl, hk, E⟩ := hrel
    obtain ⟨wb, rfl⟩ : ∃ wo : World, wo = wr := ⟨_, rfl⟩
    by_cases hkN : k < N
    · have hd1 : decide ((k : Int) < (N : Int)) = true := by simp; omega
      have hd2 : (k : Int) < (N : Int) := by omega
      obtain ⟨k0, k1, k2, kf, klt⟩ := E.img.d3
      obtain ⟨o0, o1, o2, of, olt⟩ := E.o.d3
      have hkWH : k < W * H := by rw [← HN.out]; exact hkN
      obtain ⟨q1, q2, q3, q4, -, -⟩ := qparts hkWH
      obtain ⟨x, hx⟩ : ∃ x, x = k % W := ⟨_, rfl⟩
      obtain ⟨y, hy⟩ : ∃ y, y = k / W := ⟨_, rfl⟩
      obtain ⟨d, hd⟩ : ∃ d, d = quaD W H k := ⟨_, rfl⟩
      obtain ⟨p, hp⟩ : ∃ p, p = x * H := ⟨_, rfl⟩
      have hdN : d < N := by rw [hd, HN.out]; exact quaD_lt hkWH
      have hdp : d = p + (H - 1 - y) := by rw [hd, hp, hx, hy]; rfl
      have hpN : p ≤ N := by omega
      rw [← hx] at q4
      rw [← hy] at q3
      have hr0 : ¬ (W : Int) = 0 := by omega
      have hr1 : Int.tmod (k : Int) (W : Int) = (x : Int) := by rw [hx]; rfl
      have hr2 : Int.tdiv (k : Int) (W : Int) = (y : Int) := by rw [hy]; rfl
      have hr3 : IntKind.i64.wrap (x : Int) = x := IntWalk.i64_in _ (by omega)
      have hr4 : IntKind.i64.wrap (y : Int) = y := IntWalk.i64_in _ (by omega)
      have hr5 : IntKind.i64.wrap ((x : Int) * (H : Int)) = p := by rw [← Int.natCast_mul, ← hp]; exact IntWalk.i64_in _ (by omega)
      have hr6 : IntKind.i64.wrap ((p : Int) + (H : Int)) = (p : Int) + (H : Int) := IntWalk.i64_in _ (by omega)
      have hr7 : IntKind.i64.wrap ((p : Int) + (H : Int) - 1) = (p : Int) + (H : Int) - 1 := IntWalk.i64_in _ (by omega)
      have hr8 : IntKind.i64.wrap ((p : Int) + (H : Int) - 1 - (y : Int)) = (d : Int) := by rw [IntWalk.i64_in _ (by omega)]; omega
      have hset := quaTo_succ (px := px) hkWH
      rw [← hd] at hset
      obtain ⟨v, hv⟩ : ∃ v, v = px.getD k 0 := ⟨_, rfl⟩
      have c0 := keep E.below (HPC.out k _ (getD_some (d := 0) (by rw [HNP.out]; exact hkN))) hpb
      rw [← hv] at c0 hset
      have HSET := Lib.hid hset
      have hdl : d < (quaTo W H px k).length := by rw [quaTo_len, ← HN.out]; exact hdN
      have c1 := E.px.cell (i := d) (v := .int .u8 ((quaTo W H px k).getD d 0)) (by rw [List.getElem?_map, getD_some (d := 0) hdl]; rfl)
      have c2 := E.px.froz d
      have c3 := E.px.lt
      have hd3 : (d : Int) < (N : Int) := by omega
      generalize (quaTo W H px k).getD d 0 = old at c1
      clear hx hy hd hp hdp hset hv hdl hkWH
      go_wp2_with fail
      go_quiet (fail)
      go_wp2_with fail
      go_roundw
      case rel => exact ⟨k + 1, by go_num, by omega, by rw [← HSET.out]; exact (E.keep (below_drewN (Below.refl _ _) _)).set d v⟩
      case measure => simp [intOf]; omega
    · obtain rfl : k = N := by omega
      obtain ⟨o0, o1, o2, of, olt⟩ := E.o.d3
      obtain ⟨r0, r1, r2, rf, rlt⟩ := E.res.d3
      go_wp2_with fail
      have hB := E.below
      have hg := E.hg
      have hL := E.px
      rw [← HQ.out] at hL
      refine bodyPost_ret (v := .agg #[.int .i64 H, .int .i64 W, .slice (some ⟨g, 0, none⟩) k k]) (by simp [results, Tryz.results33, go_sem, r0, r1, r2, rf, rlt]) rfl ⟨g, ?_, by omega, ?_, (by repeat (first | (with_reducible exact Below.refl _ _) | (with_reducible assumption) | ((with_reducible refine Below.setCell ?_ ?_ _); rotate_left; (focus (first | omega | (simp; done) | (simp; omega)))) | (with_reducible refine Below.drew ?_) | (with_reducible refine below_drewN ?_ _) | ((with_reducible refine Below.alloc ?_ ?_ _); rotate_left; (focus (first | omega | (simp; done) | (simp; omega))))))⟩
      · rw [HQL.out]
      · exact ((hL.set_other (by simp; omega) _).set_other (by simp; omega) _).set_other (by simp; omega) _

end Go.Proofs.YtnfgedbcfclnmaaGreat
