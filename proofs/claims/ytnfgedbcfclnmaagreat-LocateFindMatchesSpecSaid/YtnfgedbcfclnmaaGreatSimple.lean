/- The simplest fraction between two: the program's simplest, slope, line. -/
import Derived.Test.YtnfgedbcfclnmaaGreatVals
import Derived.StillTailTactics
set_option linter.unusedVariables false
set_option linter.unusedSimpArgs false
namespace Go.Proofs.YtnfgedbcfclnmaaGreat
open Go.RowKit

/-- A fraction strictly between two, not larger than their mediant. -/
def SimP (la lb ha hb : Int) (r : Int × Int) : Prop := 0 ≤ r.1 ∧ 0 < r.2 ∧ r.2 ≤ lb + hb ∧ r.1 ≤ la + ha ∧ la * r.2 < r.1 * lb ∧ r.1 * hb < ha * r.2

structure SimPre (la lb ha hb : Int) : Prop where
  a0 : 0 ≤ la
  a1 : la ≤ 20000
  b0 : 0 < lb
  b1 : lb ≤ 20000
  c0 : 0 < ha
  c1 : ha ≤ 20000
  d0 : 0 < hb
  d1 : hb ≤ 20000
  lt : la * hb < ha * lb

theorem floor_facts {a b : Int} (hb : 0 < b) : a / b * b ≤ a ∧ a < (a / b + 1) * b := by
  have h1 := Int.mul_ediv_add_emod a b
  have h2 := Int.emod_nonneg a (show b ≠ 0 by omega)
  have h3 := Int.emod_lt_of_pos a hb
  rw [Int.mul_comm] at h1
  constructor
  · omega
  · rw [Int.add_mul]; omega

theorem sim_int {la lb ha hb n : Int} (h : SimPre la lb ha hb) (hn : n = la / lb + 1) (ht : n * hb < ha) : SimP la lb ha hb (n, 1) := by
  obtain ⟨f1, f2⟩ := floor_facts (a := la) h.b0
  have hq : 0 ≤ la / lb := Int.ediv_nonneg h.a0 (Int.le_of_lt h.b0)
  have := h.a0; have := h.b0; have := h.c0; have := h.d0
  rw [← hn] at f2
  have hm := mul_ge_of (show 0 ≤ n by omega) h.d0
  refine ⟨by dsimp only; omega, by dsimp only; omega, by dsimp only; omega, by dsimp only; omega, by dsimp only; omega, by dsimp only; omega⟩

/-- What is left of two fractions that lie between n and n + 1. -/
theorem sim_rest {la lb ha hb n : Int} (h : SimPre la lb ha hb) (hn : n = la / lb) (ht : ha ≤ (n + 1) * hb) : 0 ≤ n ∧ n ≤ 20000 ∧ 0 ≤ la - n * lb ∧ la - n * lb < lb ∧ 0 < ha - n * hb ∧ ha - n * hb ≤ hb ∧ hb * (la - n * lb) < lb * (ha - n * hb) := by
  obtain ⟨f1, f2⟩ := floor_facts (a := la) h.b0
  have hq : 0 ≤ la / lb := Int.ediv_nonneg h.a0 (Int.le_of_lt h.b0)
  obtain ⟨a0, a1, b0, b1, c0, c1, d0, d1, lt⟩ := h
  rw [← hn] at f1 f2 hq
  have hm := mul_ge_of hq b0
  have e : hb * (la - n * lb) < lb * (ha - n * hb) := by grind
  refine ⟨hq, by omega, by omega, by rw [Int.add_mul] at f2; omega, ?_, by rw [Int.add_mul] at ht; omega, e⟩
  have h0 : 0 ≤ hb * (la - n * lb) := Int.mul_nonneg (by omega) (by omega)
  rcases Int.lt_or_le 0 (ha - n * hb) with g | g
  · exact g
  · have := Int.mul_le_mul_of_nonneg_left g (Int.le_of_lt b0); omega

theorem sim_zero {la lb ha hb n k : Int} (h : SimPre la lb ha hb) (hn : n = la / lb) (ht : ha ≤ (n + 1) * hb) (hz : la - n * lb = 0) (hk : k = hb / (ha - n * hb) + 1) : SimP la lb ha hb (n * k + 1, k) ∧ 0 ≤ n * k ∧ n * k ≤ 400020000 ∧ 0 < k ∧ k ≤ 20001 := by
  obtain ⟨r0, r1, r2, r3, r4, r5, r6⟩ := sim_rest h hn ht
  obtain ⟨a0, a1, b0, b1, c0, c1, d0, d1, lt⟩ := h
  obtain ⟨f1, f2⟩ := floor_facts (a := hb) r4
  have hq : 0 ≤ hb / (ha - n * hb) := Int.ediv_nonneg (Int.le_of_lt d0) (Int.le_of_lt r4)
  have hle := mul_ge_of hq r4
  rw [← hk] at f2
  have hk1 : k ≤ hb + 1 := by omega
  have e0 : 0 ≤ n * k := Int.mul_nonneg r0 (by omega)
  have e1 : n * k ≤ n * (hb + lb) := Int.mul_le_mul_of_nonneg_left (by omega) r0
  have e2 : n * (hb + lb) ≤ 20000 * 40000 := Int.mul_le_mul r1 (by omega) (by omega) (by omega)
  have e3 : n * k ≤ 20000 * 20001 := Int.mul_le_mul r1 (by omega) (by omega) (by omega)
  refine ⟨⟨by dsimp only; omega, by dsimp only; omega, by dsimp only; omega, ?_, ?_, ?_⟩, e0, by omega, by omega, by omega⟩
  · dsimp only; grind
  · dsimp only; grind
  · dsimp only; grind

theorem sim_pre {la lb ha hb n : Int} (h : SimPre la lb ha hb) (hn : n = la / lb) (ht : ha ≤ (n + 1) * hb) (hz : ¬ la - n * lb = 0) : SimPre hb (ha - n * hb) lb (la - n * lb) ∧ (ha - n * hb) + (la - n * lb) < lb + hb := by
  obtain ⟨r0, r1, r2, r3, r4, r5, r6⟩ := sim_rest h hn ht
  obtain ⟨a0, a1, b0, b1, c0, c1, d0, d1, lt⟩ := h
  exact ⟨⟨by omega, by omega, by omega, by omega, by omega, by omega, by omega, by omega, r6⟩, by omega⟩

theorem sim_step {la lb ha hb n : Int} {r : Int × Int} (h : SimPre la lb ha hb) (hn : n = la / lb) (ht : ha ≤ (n + 1) * hb) (hr : SimP hb (ha - n * hb) lb (la - n * lb) r) : SimP la lb ha hb (n * r.1 + r.2, r.1) ∧ 0 ≤ n * r.1 ∧ n * r.1 ≤ 800000000 ∧ r.1 ≤ 40000 ∧ r.2 ≤ 40000 := by
  obtain ⟨r0, r1, r2, r3, r4, r5, r6⟩ := sim_rest h hn ht
  obtain ⟨s0, s1, s2, s3, s4, s5⟩ := hr
  obtain ⟨a0, a1, b0, b1, c0, c1, d0, d1, lt⟩ := h
  obtain ⟨x, y⟩ := r
  dsimp only at *
  have e0 : 0 ≤ n * x := Int.mul_nonneg r0 s0
  have e1 : n * x ≤ n * (hb + lb) := Int.mul_le_mul_of_nonneg_left s3 r0
  have e3 : n * x ≤ 20000 * 40000 := Int.mul_le_mul r1 (by omega) (by omega) (by omega)
  have hx : 0 < x := by
    have h0 : 0 < hb * y := Int.mul_pos d0 s1
    rcases Int.lt_or_le 0 x with g | g
    · exact g
    · have := Int.mul_le_mul_of_nonneg_right g (Int.le_of_lt r4); omega
  refine ⟨⟨by dsimp only; omega, hx, by dsimp only; omega, ?_, ?_, ?_⟩, e0, by omega, by omega, by omega⟩
  · dsimp only; grind
  · dsimp only; grind
  · dsimp only; grind

/-- The blocks of a call of simplest. -/
structure SimEnv (w : World) (la lb ha hb : Int) (wx : World) : Prop where
  below : Below w.heap.size w wx
  p : Blk wx w.heap.size #[.int .i64 la, .int .i64 lb] 111
  q : Blk wx (w.heap.size + 1) #[.int .i64 ha, .int .i64 hb] 111
  r : Blk wx (w.heap.size + 1 + 1) #[.int .i64 0, .int .i64 0] 111
theorem SimEnv.alloc {w wx : World} {la lb ha hb : Int} (h : SimEnv w la lb ha hb wx) (o : Obj) : SimEnv w la lb ha hb (wx.alloc o) := ⟨h.below.alloc h.below.size _, h.p.alloc _, h.q.alloc _, h.r.alloc _⟩
theorem SimEnv.drew {w wx : World} {la lb ha hb : Int} (h : SimEnv w la lb ha hb wx) : SimEnv w la lb ha hb wx.drew := ⟨h.below.drew, h.p, h.q, h.r⟩
theorem SimEnv.keep {w wx w1 : World} {la lb ha hb : Int} (h : SimEnv w la lb ha hb wx) (hb' : Below wx.heap.size wx w1) : SimEnv w la lb ha hb w1 :=
  ⟨binto h.below hb', h.p.keep hb' h.p.lt, h.q.keep hb' h.q.lt, h.r.keep hb' h.r.lt⟩

set_option maxRecDepth 100000 in
set_option maxHeartbeats 4000000 in
theorem simplest_any (N : Nat) : ∀ (la lb ha hb : Int) (w : World), lb + hb ≤ N → SimPre la lb ha hb →
    Calls Tryz.prog 104 #[.agg #[.int .i64 la, .int .i64 lb], .agg #[.int .i64 ha, .int .i64 hb]] w (RetEx (SimP la lb ha hb) (fun r => .agg #[.int .i64 r.1, .int .i64 r.2]) w) := by
  induction N with
  | zero => exact fun la lb ha hb w hN hp => absurd hp.b0 (by have := hp.d0; omega)
  | succ N ih =>
    intro la lb ha hb w hN hp
    have IH := Lib.hid ih
    clear ih
    have HP := Lib.hid hp
    obtain ⟨a0, a1, b0, b1, c0, c1, d0, d1, -⟩ := hp
    obtain ⟨n, hn⟩ : ∃ n, n = la / lb := ⟨_, rfl⟩
    have hq : 0 ≤ n := by rw [hn]; exact Int.ediv_nonneg a0 (Int.le_of_lt b0)
    have hq2 : n ≤ 20000 := by
      have := (floor_facts (a := la) b0).1
      rw [← hn] at this
      have := mul_ge_of hq b0; omega
    have hnb : 0 ≤ (n + 1) * hb ∧ (n + 1) * hb ≤ 20001 * 20000 := ⟨Int.mul_nonneg (by omega) (by omega), Int.mul_le_mul (by omega) (by omega) (by omega) (by omega)⟩
    obtain ⟨hnb1, hnb2⟩ := hnb
    have hdv : la / lb = n := hn.symm
    have HN := Lib.hid hn
    clear hn
    have HDV := Lib.hid hdv
    clear hdv
    go_enter Tryz.func104, Tryz.ntmps104
    go_wp2_with fail
    generalize hW0 : World.alloc (World.alloc (World.alloc w _) _) _ = W0
    have E0 : SimEnv w la lb ha hb W0 := by rw [← hW0]; exact ⟨(by repeat (first | (with_reducible exact Below.refl _ _) | (with_reducible assumption) | ((with_reducible refine Below.setCell ?_ ?_ _); rotate_left; (focus (first | omega | (simp; done) | (simp; omega)))) | (with_reducible refine Below.drew ?_) | (with_reducible refine below_drewN ?_ _) | ((with_reducible refine Below.alloc ?_ ?_ _); rotate_left; (focus (first | omega | (simp; done) | (simp; omega)))))), ((Blk.new _ _ _).alloc _).alloc _, (Blk.newAt _ _ (by simp)).alloc _, Blk.newAt _ _ (by simp)⟩
    clear hW0
    refine (floorP_any la lb _ ⟨by omega, by omega⟩ b0 (by omega)).mono ?_
    rintro e w1 ⟨rfl, rfl⟩
    rw [HDV.out]
    obtain ⟨x0, x1, xf, xlt⟩ := E0.p.d2
    obtain ⟨y0, y1, yf, ylt⟩ := E0.q.d2
    obtain ⟨r0, r1, rf, rlt⟩ := E0.r.d2
    have hB0 := E0.below
    by_cases ht : (n + 1) * hb < ha
    · have hs := sim_int HP.out (by rw [HN.out]) ht
      have HS := Lib.hid hs
      clear hs
      go_wp2_with fail
      exact bodyPost_ret (v := .agg #[.int .i64 (n + 1), .int .i64 1]) (by simp [results, Tryz.results104, go_sem, r0, r1, rf, rlt]) rfl ⟨(n + 1, 1), HS.out, rfl, (by repeat (first | (with_reducible exact Below.refl _ _) | (with_reducible assumption) | ((with_reducible refine Below.setCell ?_ ?_ _); rotate_left; (focus (first | omega | (simp; done) | (simp; omega)))) | (with_reducible refine Below.drew ?_) | (with_reducible refine below_drewN ?_ _) | ((with_reducible refine Below.alloc ?_ ?_ _); rotate_left; (focus (first | omega | (simp; done) | (simp; omega))))))⟩
    · have ht := Int.not_lt.1 ht
      obtain ⟨-, -, s2, s3, s4, s5, -⟩ := sim_rest HP.out HN.out ht
      have HT := Lib.hid ht
      have hnl : 0 ≤ n * lb ∧ n * lb ≤ 400000000 := ⟨Int.mul_nonneg hq (by omega), Int.mul_le_mul hq2 b1 (by omega) (by omega)⟩
      have hnh : 0 ≤ n * hb ∧ n * hb ≤ 400000000 := ⟨Int.mul_nonneg hq (by omega), Int.mul_le_mul hq2 d1 (by omega) (by omega)⟩
      obtain ⟨l1, l2⟩ := hnl
      obtain ⟨l3, l4⟩ := hnh
      have e1 : IntKind.i64.wrap (n * lb) = n * lb := IntWalk.i64_in _ (by omega)
      have e2 : IntKind.i64.wrap (n * hb) = n * hb := IntWalk.i64_in _ (by omega)
      have e3 : IntKind.i64.wrap (la - n * lb) = la - n * lb := IntWalk.i64_in _ (by omega)
      have e4 : IntKind.i64.wrap (ha - n * hb) = ha - n * hb := IntWalk.i64_in _ (by omega)
      go_upto_region 5 with fail
      go_cut [6, 7] (fun u6 u7 wx => ∃ b6 b7 : Nat, u6 = .pointer (some ⟨b6, 0, none⟩) ∧ u7 = .pointer (some ⟨b7, 0, none⟩) ∧ SimEnv w la lb ha hb wx ∧ Blk wx b6 #[.int .i64 (la - n * lb), .int .i64 lb] 111 ∧ Blk wx b7 #[.int .i64 (ha - n * hb), .int .i64 hb] 111)
      case first =>
        go_region_held3 (fun w' => w'.cell? ⟨w.heap.size, 0, none⟩ = some (.int .i64 la) ∧ w'.cell? ⟨w.heap.size, 1, none⟩ = some (.int .i64 lb) ∧ w'.cell? ⟨w.heap.size + 1, 0, none⟩ = some (.int .i64 ha) ∧ w'.cell? ⟨w.heap.size + 1, 1, none⟩ = some (.int .i64 hb))
          (first | go_keep) ((fail))
        all_goals go_wp2_with fail
        all_goals go_meet
        · exact ⟨W0.heap.size, W0.heap.size + 1, rfl, rfl, ((E0.alloc _).alloc _).drew, ((Blk.new _ _ _).alloc _).drew, (Blk.newAt _ _ (by simp)).drew⟩
        · exact ⟨W0.heap.size + 1, W0.heap.size, rfl, rfl, ((E0.alloc _).alloc _).drew, (Blk.newAt _ _ (by simp)).drew, ((Blk.new _ _ _).alloc _).drew⟩
      case rest =>
        clear x0 x1 xf xlt y0 y1 yf ylt r0 r1 rf rlt hB0 E0 e1 e2 e3 e4
        obtain ⟨b6, b7, rfl, rfl, E, A, D⟩ := hcut
        obtain ⟨x0, x1, xf, xlt⟩ := A.d2
        obtain ⟨y0, y1, yf, ylt⟩ := D.d2
        obtain ⟨r0, r1, rf, rlt⟩ := E.r.d2
        have hBE := E.below
        by_cases hz : la - n * lb = 0
        · have hzb : (la - n * lb == 0) = true := by rw [beq_iff_eq]; exact hz
          obtain ⟨k, hk⟩ : ∃ k, k = hb / (ha - n * hb) + 1 := ⟨_, rfl⟩
          obtain ⟨hs, z1, z2, z3, z4⟩ := sim_zero HP.out HN.out HT.out hz hk
          have HS := Lib.hid hs
          have hk' : hb / (ha - n * hb) = k - 1 := by omega
          have HK := Lib.hid hk'
          clear hs hz hk hk'
          go_wp2_with fail
          refine (floorP_any hb (ha - n * hb) _ ⟨by omega, by omega⟩ s4 (by omega)).mono ?_
          rintro e w1 ⟨rfl, rfl⟩
          rw [HK.out]
          have hk3 : k - 1 + 1 = k := by omega
          go_wp2_with fail
          exact bodyPost_ret (v := .agg #[.int .i64 (n * k + 1), .int .i64 k]) (by simp [results, Tryz.results104, go_sem, r0, r1, rf, rlt]) rfl ⟨(n * k + 1, k), HS.out, rfl, (by repeat (first | (with_reducible exact Below.refl _ _) | (with_reducible assumption) | ((with_reducible refine Below.setCell ?_ ?_ _); rotate_left; (focus (first | omega | (simp; done) | (simp; omega)))) | (with_reducible refine Below.drew ?_) | (with_reducible refine below_drewN ?_ _) | ((with_reducible refine Below.alloc ?_ ?_ _); rotate_left; (focus (first | omega | (simp; done) | (simp; omega))))))⟩
        · have hzb : (la - n * lb == 0) = false := by rw [beq_eq_false_iff_ne]; exact hz
          obtain ⟨hpre, hlt⟩ := sim_pre HP.out HN.out HT.out hz
          clear hz
          go_wp2_with fail
          refine (IH.out hb (ha - n * hb) lb (la - n * lb) _ (by omega) hpre).mono ?_
          rintro e w1 ⟨r, hr, rfl, hb1⟩
          clear x0 x1 xf xlt y0 y1 yf ylt r0 r1 rf rlt hBE
          obtain ⟨hs, z1, z2, z3, z4⟩ := sim_step HP.out HN.out HT.out hr
          have HS := Lib.hid hs
          have hr1 := hr.1
          have hr2 := hr.2.1
          have E1 := E.keep hb1
          obtain ⟨r0, r1, rf, rlt⟩ := E1.r.d2
          have hBE := E1.below
          clear hs hr hpre hlt E A D
          go_wp2_with fail
          exact bodyPost_ret (v := .agg #[.int .i64 (n * r.1 + r.2), .int .i64 r.1]) (by simp [results, Tryz.results104, go_sem, r0, r1, rf, rlt]) rfl ⟨(n * r.1 + r.2, r.1), HS.out, rfl, (by repeat (first | (with_reducible exact Below.refl _ _) | (with_reducible assumption) | ((with_reducible refine Below.setCell ?_ ?_ _); rotate_left; (focus (first | omega | (simp; done) | (simp; omega)))) | (with_reducible refine Below.drew ?_) | (with_reducible refine below_drewN ?_ _) | ((with_reducible refine Below.alloc ?_ ?_ _); rotate_left; (focus (first | omega | (simp; done) | (simp; omega))))))⟩

end Go.Proofs.YtnfgedbcfclnmaaGreat
