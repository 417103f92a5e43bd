/- The walk of TopsOf. -/
import Derived.Test.YtnfgedbcfclnmaaGreatTopsF
import Derived.Test.YtnfgedbcfclnmaaGreatStretch
import Derived.Test.YtnfgedbcfclnmaaGreatFilled
import Derived.StillTailTactics
set_option linter.unusedVariables false
set_option linter.unusedSimpArgs false
namespace Go.Proofs.YtnfgedbcfclnmaaGreat
open Go.RowKit

theorem Tryz.infoQuad : (Tryz.prog.info? 94).map (fun i => (i.zero, i.size, i.bytes)) = some (some (.agg #[.int .i64 0, .int .i64 0, .int .i64 0, .int .i64 0]), 4, 32) := by kernel_rfl

def TopsRet (W H : Int) (px : List Int) (w : World) (e : Ending) (w' : World) : Prop :=
  ∃ rs o, StList W H px rs ∧ ColsIs rs o ∧ Below w.heap.size w w' ∧
    match o with
    | none => e = .returned (.tuple #[.slice none 0 0, .int .i64 0, .int .i64 0])
    | some (l, s, R) => ∃ v, e = .returned (.tuple #[v, .int .i64 s, .int .i64 R]) ∧ w'.ownsRow w.heap.size 3 1 v l.length (l.map (Value.int .i64))

/-- The image's box and the list of the columns. -/
structure TopEnv (w : World) (W H : Int) (pv : Value) (g : Nat) (rs : List (Int × Int × Int × Int)) (wx : World) : Prop where
  below : Below w.heap.size w wx
  img : Blk wx w.heap.size #[.int .i64 W, .int .i64 H, pv] 24
  q : QuadsAt wx g rs
  lt : w.heap.size < g
  lt2 : g < wx.heap.size
theorem TopEnv.keep {w wx w1 : World} {W H : Int} {pv : Value} {g : Nat} {rs : List (Int × Int × Int × Int)} (h : TopEnv w W H pv g rs wx) (hb : Below wx.heap.size wx w1) : TopEnv w W H pv g rs w1 :=
  ⟨binto h.below hb, h.img.keep hb h.img.lt, h.q.keep hb h.lt2, h.lt, Nat.lt_of_lt_of_le h.lt2 hb.size⟩

theorem TopEnv.keepB {w wx w1 : World} {W H : Int} {pv : Value} {g : Nat} {rs : List (Int × Int × Int × Int)} (h : TopEnv w W H pv g rs wx) (hb : Below (g + 1) wx w1) : TopEnv w W H pv g rs w1 := by
  have h1 := h.lt
  exact ⟨h.below.trans (hb.mono (by omega)), h.img.keep hb (by omega), h.q.keep hb (by omega), h1, Nat.lt_of_lt_of_le h.lt2 hb.size⟩

set_option maxRecDepth 100000 in
set_option maxHeartbeats 4000000 in
theorem topsOf_any (W H : Int) (a : Option Addr) (np cp : Nat) (px : List Int) (w : World) (h : ImgOk w W H (.slice a np cp) px) :
    Calls Tryz.prog 24 #[.agg #[.int .i64 W, .int .i64 H, .slice a np cp]] w (TopsRet W H px w) := by
  have h1 := h.w1
  have h2 := h.w2
  have h3 := h.h1
  have h4 := h.h2
  obtain ⟨n, hWn⟩ : ∃ n : Nat, W = n := ⟨W.toNat, by omega⟩
  subst hWn
  go_enter Tryz.func24, Tryz.ntmps24
  go_wp2_with fail
  generalize hW0 : World.alloc w _ = W0
  have s0 : W0.heap.size = w.heap.size + 1 := by rw [← hW0]; simp
  have K0 : Blk W0 w.heap.size #[.int .i64 n, .int .i64 H, .slice a np cp] 24 := by rw [← hW0]; exact Blk.new _ _ _
  have hB0 : Below w.heap.size w W0 := by rw [← hW0]; exact (by repeat (first | (with_reducible exact Below.refl _ _) | (with_reducible assumption) | ((with_reducible refine Below.setCell ?_ ?_ _); rotate_left; (focus (first | omega | (simp; done) | (simp; omega)))) | (with_reducible refine Below.drew ?_) | (with_reducible refine below_drewN ?_ _) | ((with_reducible refine Below.alloc ?_ ?_ _); rotate_left; (focus (first | omega | (simp; done) | (simp; omega))))))
  clear hW0
  go_loopw [5, 6] (fun v x wr => ∃ (k : Nat) (rs : List (Int × Int × Int × Int)), x = .int .i64 k ∧ k ≤ n ∧ rs.length = k ∧ Hid (∀ x : Nat, x < k → StretchIs (darkB n H px x) (rs.getD x (0, 0, 0, 0))) ∧ Below w.heap.size w wr ∧ Blk wr w.heap.size #[.int .i64 n, .int .i64 H, .slice a np cp] 24 ∧ wr.ownsRow (w.heap.size + 1) 94 4 v k (qCells rs)) (fun _ x _ => n - (intOf x).toNat)
  case atStart => exact ⟨0, [], rfl, by omega, rfl, fun x hx => by omega, hB0, K0, World.ownsRow_nil _ _ _ _⟩
  case round =>
    obtain ⟨k, rs, rfl, hk, hl, hst, hB, K, hown⟩ := hrel
    obtain ⟨wa, rfl⟩ : ∃ wo : World, wo = wr := ⟨_, rfl⟩
    clear hB0 K0 s0
    obtain ⟨k0, k1, k2, kf, klt⟩ := K.d3
    by_cases hlt : k < n
    · have hd1 : decide ((k : Int) < (n : Int)) = true := by simp; omega
      have hI := h.below hB
      go_wp2_with fail
      refine (stretch_any n H k _ px wa hI).mono ?_
      rintro e w3 ⟨r, hr, rfl, hb3⟩
      have hown3 := own_keep hown hb3
      have K3 := K.keep hb3 klt
      have hB3 := binto hB hb3
      have klt3 := K3.lt
      have hst' : ∀ x : Nat, x < k + 1 → StretchIs (darkB n H px x) ((rs ++ [r]).getD x (0, 0, 0, 0)) := fun x hx => by
        rcases Nat.lt_or_ge x k with g' | g'
        · have := hst.out x g'
          simpa [List.getD, List.getElem?_append_left (show x < rs.length by omega)] using this
        · obtain rfl : x = k := by omega
          simpa [List.getD, ← hl] using hl ▸ hr
      have HST := Lib.hid hst'
      clear hst hst' hr hI k0 k1 k2 kf klt hb3 hown K hB
      dsimp only
      go_wp2_with (at_builtin; refine wp_app1 _ rfl _ _ 93 rfl (w.heap.size + 1) 94 (.agg #[.int .i64 0, .int .i64 0, .int .i64 0, .int .i64 0]) 4 32 Tryz.underlying93 Tryz.infoQuad rfl (by decide) (by decide) _ _ _ rfl (hown3.alloc _) _ [.int .i64 r.1, .int .i64 r.2.1, .int .i64 r.2.2.1, .int .i64 r.2.2.2] rfl rfl (Blk.new _ _ _) (by simp [Value.oneCell']) (by omega) (by simp; omega) ?_; intro v' w4 hown4 hg4)
      rw [← qCells_snoc] at hown4
      have hbb : Below (w.heap.size + 1) w3 w4 := ((Below.refl (w.heap.size + 1) w3).alloc (by omega) _).grown hg4 (by simp; omega) (fun j hj => (hown3.lt j hj).1)
      go_roundw
      case rel => exact ⟨k + 1, rs ++ [r], by go_num, by omega, by simp [hl], HST, hB3.trans (hbb.mono (by omega)), K3.keep hbb (by omega), hown4⟩
      case measure => simp [intOf]; omega
    · obtain rfl : k = n := by omega
      have hSL : StList k H px rs := ⟨by omega, fun x hx => hst.out x (by omega)⟩
      have hSB := hSL.bound h4
      obtain ⟨g, cap, rfl, hg1, hg2, hg3, hg4, hQ⟩ := own_quads hown hl (by omega)
      have M : TopEnv w k H (.slice a np cp) g rs wa := ⟨hB, K, hQ, by omega, hg2⟩
      have HSL := Lib.hid hSL
      have HSB := Lib.hid hSB
      clear hst hSL hSB hlt hk hB K hQ hown
      go_wp2_with fail
      go_loopw [7, 8, 9, 10] (fun b c d x wr => ∃ (best s R hh : Int), b = .int .i64 best ∧ c = .int .i64 s ∧ d = .int .i64 R ∧ x = .int .i64 hh ∧ 159 ≤ hh ∧ hh ≤ 511 ∧ BestT rs (DT hh 3) best s R ∧ TopEnv w k H (.slice a np cp) g rs wr) (fun _ _ _ x _ => (511 - intOf x).toNat)
      case atStart => exact ⟨0, 0, 0, 159, rfl, rfl, rfl, rfl, by omega, by omega, BestT.start, M⟩
      case round =>
        clear M
        obtain ⟨best, s, R, hh, rfl, rfl, rfl, rfl, i1, i2, hbest, M⟩ := hrel
        obtain ⟨wb, rfl⟩ : ∃ wo : World, wo = wr := ⟨_, rfl⟩
        by_cases hh5 : hh ≤ 510
        · have hd2 : decide (hh ≤ 510) = true := by simpa using hh5
          go_wp2_with fail
          go_loopw [7, 8, 9, 11] (fun b c d x wr => ∃ (best s R s1 : Int), b = .int .i64 best ∧ c = .int .i64 s ∧ d = .int .i64 R ∧ x = .int .i64 s1 ∧ 3 ≤ s1 ∧ s1 ≤ 7 ∧ BestT rs (DT hh s1) best s R ∧ TopEnv w k H (.slice a np cp) g rs wr) (fun _ _ _ x _ => (7 - intOf x).toNat)
          case atStart => exact ⟨best, s, R, 3, rfl, rfl, rfl, rfl, by omega, by omega, hbest, M⟩
          case round =>
            clear M hbest
            obtain ⟨best, s, R, s1, rfl, rfl, rfl, rfl, j1, j2, hbest, M⟩ := hrel
            obtain ⟨wc, rfl⟩ : ∃ wo : World, wo = wr := ⟨_, rfl⟩
            by_cases hs6 : s1 ≤ 6
            · have hd3 : decide (s1 ≤ 6) = true := by simpa using hs6
              by_cases hc : hh = 85 * s1 ∨ hh = 53 * s1
              · rcases hc with rfl | rfl
                · have hcand : Cand 85 s1 := ⟨by omega, by omega, by omega⟩
                  have hquo : Int.tdiv (85 * s1) s1 = 85 := Int.mul_tdiv_cancel _ (by omega)
                  have hs0 : ¬ s1 = 0 := by omega
                  have hwq : IntKind.i64.wrap 85 = 85 := by kernel_rfl
                  have HCA := Lib.hid hcand
                  skip
                  clear hcand
                  go_wp2_with fail
                  go_loopw [12, 13] (fun c x wr => ∃ i : Nat, x = .int .i64 i ∧ i ≤ k ∧ c = .int .i64 (((rs.take i).countP (fun r => fullB r s1 85) : Nat) : Int) ∧ TopEnv w k H (.slice a np cp) g rs wr) (fun _ x _ => k - (intOf x).toNat)
                  case atStart => exact ⟨0, rfl, by omega, by simp, M⟩
                  case round =>
                    clear M
                    obtain ⟨x, rfl, hx, rfl, M⟩ := hrel
                    obtain ⟨wd, rfl⟩ : ∃ wo : World, wo = wr := ⟨_, rfl⟩
                    by_cases hxk : x < k
                    · obtain ⟨r, hr⟩ : ∃ r, r = rs.getD x (0, 0, 0, 0) := ⟨_, rfl⟩
                      have hrx : rs[x]? = some r := by rw [hr]; exact getD_some (by omega)
                      obtain ⟨c0, c1, c2, c3⟩ := M.q x r hrx
                      have hrB := HSB.out r (List.mem_of_getElem? hrx)
                      have hcnt := cnt_take (p := fun r => fullB r s1 85) (rs := rs) (x := x) (by omega)
                      rw [← hr] at hcnt
                      have HCNT := Lib.hid hcnt
                      have hle : (rs.take x).countP (fun r => fullB r s1 85) ≤ x := Nat.le_trans List.countP_le_length (by simp; omega)
                      have HF := Lib.hid (fun wz => full_any r s1 85 wz hrB ⟨by omega, by omega⟩ (by omega))
                      generalize hq : (rs.take x).countP (fun r => fullB r s1 85) = q at *
                      have hd4 : decide ((x : Int) < (k : Int)) = true := by simp; omega
                      have hglt := M.lt2
                      clear hr hrx hrB hcnt hq
                      go_wp2_with fail
                      go_still_tail 8, (by kernel_rfl)
                      go_wp2_with fail
                      refine (HF.out _).mono ?_
                      rintro e we ⟨rfl, hbe⟩
                      have M' := M.keep ((Below.refl _ _).drew.trans hbe)
                      clear HF hbe c0 c1 c2 c3 M hglt
                      cases hfu : fullB r s1 85 with
                      | true =>
                        have hnew : (rs.take (x + 1)).countP (fun r => fullB r s1 85) = q + 1 := by have := HCNT.out; simp [hfu] at this; exact this
                        have HNEW := Lib.hid hnew
                        clear hnew hfu HCNT
                        go_wp2_with fail
                        go_roundw
                        case rel => exact ⟨x + 1, by go_num, by omega, by rw [HNEW.out]; go_num, M'⟩
                        case measure => simp [intOf]; omega
                      | false =>
                        have hnew : (rs.take (x + 1)).countP (fun r => fullB r s1 85) = q := by have := HCNT.out; simp [hfu] at this; exact this
                        have HNEW := Lib.hid hnew
                        clear hnew hfu HCNT
                        go_wp2_with fail
                        go_roundw
                        case rel => exact ⟨x + 1, by go_num, by omega, by rw [HNEW.out], M'⟩
                        case measure => simp [intOf]; omega
                    · obtain rfl : x = k := by omega
                      have hcq : (rs.take x).countP (fun r => fullB r s1 85) = cntF rs 85 s1 := by rw [cntF, List.take_of_length_le (by omega)]
                      rw [hcq]
                      have hcl1 : cntF rs 85 s1 ≤ 640 := Nat.le_trans List.countP_le_length (by omega)
                      obtain ⟨b1, b2, b3, b4, b5, b6⟩ := hbest.range (by omega)
                      by_cases q1 : best < (cntF rs 85 s1 : Int)
                      · have hn1 := hbest.take HCA.out rfl b1 q1
                        have HN1 := Lib.hid hn1
                        clear hbest hcq hn1
                        generalize cntF rs 85 s1 = cc at *
                        go_wp2_with fail
                        go_quiet (fail)
                        go_wp2_with fail
                        exact ⟨⟨_, s1, 85, s1 + 1, rfl, rfl, rfl, by go_num, by omega, by omega, HN1.out, M.keep (below_drewN (Below.refl _ _) _)⟩, by simp [intOf]; omega⟩
                      · have hn1 := hbest.leave rfl (by omega) (show (cntF rs 85 s1 : Int) ≤ best by omega)
                        have HN1 := Lib.hid hn1
                        clear hbest hcq hn1
                        generalize cntF rs 85 s1 = cc at *
                        go_wp2_with fail
                        go_roundw
                        case rel => exact ⟨best, s, R, s1 + 1, rfl, rfl, rfl, by go_num, by omega, by omega, HN1.out, M⟩
                        case measure => simp [intOf]; omega
                · have hcand : Cand 53 s1 := ⟨by omega, by omega, by omega⟩
                  have hquo : Int.tdiv (53 * s1) s1 = 53 := Int.mul_tdiv_cancel _ (by omega)
                  have hs0 : ¬ s1 = 0 := by omega
                  have hwq : IntKind.i64.wrap 53 = 53 := by kernel_rfl
                  have HCA := Lib.hid hcand
                  have e2 : (53 * s1 != 85 * s1) = true := by simp; omega
                  clear hcand
                  go_wp2_with fail
                  go_loopw [12, 13] (fun c x wr => ∃ i : Nat, x = .int .i64 i ∧ i ≤ k ∧ c = .int .i64 (((rs.take i).countP (fun r => fullB r s1 53) : Nat) : Int) ∧ TopEnv w k H (.slice a np cp) g rs wr) (fun _ x _ => k - (intOf x).toNat)
                  case atStart => exact ⟨0, rfl, by omega, by simp, M⟩
                  case round =>
                    clear M
                    obtain ⟨x, rfl, hx, rfl, M⟩ := hrel
                    obtain ⟨wd, rfl⟩ : ∃ wo : World, wo = wr := ⟨_, rfl⟩
                    by_cases hxk : x < k
                    · obtain ⟨r, hr⟩ : ∃ r, r = rs.getD x (0, 0, 0, 0) := ⟨_, rfl⟩
                      have hrx : rs[x]? = some r := by rw [hr]; exact getD_some (by omega)
                      obtain ⟨c0, c1, c2, c3⟩ := M.q x r hrx
                      have hrB := HSB.out r (List.mem_of_getElem? hrx)
                      have hcnt := cnt_take (p := fun r => fullB r s1 53) (rs := rs) (x := x) (by omega)
                      rw [← hr] at hcnt
                      have HCNT := Lib.hid hcnt
                      have hle : (rs.take x).countP (fun r => fullB r s1 53) ≤ x := Nat.le_trans List.countP_le_length (by simp; omega)
                      have HF := Lib.hid (fun wz => full_any r s1 53 wz hrB ⟨by omega, by omega⟩ (by omega))
                      generalize hq : (rs.take x).countP (fun r => fullB r s1 53) = q at *
                      have hd4 : decide ((x : Int) < (k : Int)) = true := by simp; omega
                      have hglt := M.lt2
                      clear hr hrx hrB hcnt hq
                      go_wp2_with fail
                      go_still_tail 8, (by kernel_rfl)
                      go_wp2_with fail
                      refine (HF.out _).mono ?_
                      rintro e we ⟨rfl, hbe⟩
                      have M' := M.keep ((Below.refl _ _).drew.trans hbe)
                      clear HF hbe c0 c1 c2 c3 M hglt
                      cases hfu : fullB r s1 53 with
                      | true =>
                        have hnew : (rs.take (x + 1)).countP (fun r => fullB r s1 53) = q + 1 := by have := HCNT.out; simp [hfu] at this; exact this
                        have HNEW := Lib.hid hnew
                        clear hnew hfu HCNT
                        go_wp2_with fail
                        go_roundw
                        case rel => exact ⟨x + 1, by go_num, by omega, by rw [HNEW.out]; go_num, M'⟩
                        case measure => simp [intOf]; omega
                      | false =>
                        have hnew : (rs.take (x + 1)).countP (fun r => fullB r s1 53) = q := by have := HCNT.out; simp [hfu] at this; exact this
                        have HNEW := Lib.hid hnew
                        clear hnew hfu HCNT
                        go_wp2_with fail
                        go_roundw
                        case rel => exact ⟨x + 1, by go_num, by omega, by rw [HNEW.out], M'⟩
                        case measure => simp [intOf]; omega
                    · obtain rfl : x = k := by omega
                      have hcq : (rs.take x).countP (fun r => fullB r s1 53) = cntF rs 53 s1 := by rw [cntF, List.take_of_length_le (by omega)]
                      rw [hcq]
                      have hcl1 : cntF rs 53 s1 ≤ 640 := Nat.le_trans List.countP_le_length (by omega)
                      obtain ⟨b1, b2, b3, b4, b5, b6⟩ := hbest.range (by omega)
                      by_cases q1 : best < (cntF rs 53 s1 : Int)
                      · have hn1 := hbest.take HCA.out rfl b1 q1
                        have HN1 := Lib.hid hn1
                        clear hbest hcq hn1
                        generalize cntF rs 53 s1 = cc at *
                        go_wp2_with fail
                        go_quiet (fail)
                        go_wp2_with fail
                        exact ⟨⟨_, s1, 53, s1 + 1, rfl, rfl, rfl, by go_num, by omega, by omega, HN1.out, M.keep (below_drewN (Below.refl _ _) _)⟩, by simp [intOf]; omega⟩
                      · have hn1 := hbest.leave rfl (by omega) (show (cntF rs 53 s1 : Int) ≤ best by omega)
                        have HN1 := Lib.hid hn1
                        clear hbest hcq hn1
                        generalize cntF rs 53 s1 = cc at *
                        go_wp2_with fail
                        go_roundw
                        case rel => exact ⟨best, s, R, s1 + 1, rfl, rfl, rfl, by go_num, by omega, by omega, HN1.out, M⟩
                        case measure => simp [intOf]; omega
              · have hn1 := hbest.skip (fun e => hc (.inl e)) (fun e => hc (.inr e))
                have e1 : (hh != 85 * s1) = true := by simp; omega
                have e2 : (hh != 53 * s1) = true := by simp; omega
                have HN1 := Lib.hid hn1
                clear hc hbest hn1
                go_wp2_with fail
                go_roundw
                case rel => exact ⟨best, s, R, s1 + 1, rfl, rfl, rfl, by go_num, by omega, by omega, HN1.out, M⟩
                case measure => simp [intOf]; omega
            · obtain rfl : s1 = 7 := by omega
              have hn1 := hbest.next (by omega)
              go_wp2_with fail
              go_roundw
              case rel => exact ⟨best, s, R, hh + 1, rfl, rfl, rfl, by go_num, by omega, by omega, hn1, M⟩
              case measure => simp [intOf]; omega
        · obtain rfl : hh = 511 := by omega
          have hrng := hbest.range (by omega)
          have hBE := M.below
          rcases hbest.done with ⟨rfl, rfl, rfl, hno⟩ | ⟨hpos, hBI, hcnt⟩
          · have HNO := Lib.hid hno
            clear hbest hno
            go_wp2_with fail
            refine bodyPost_ret (v := .tuple #[.slice none 0 0, .int .i64 0, .int .i64 0]) (by simp [results, Tryz.results24, go_sem]) rfl ?_
            exact ⟨rs, none, HSL.out, HNO.out, hBE, rfl⟩
          · have HBI := Lib.hid hBI
            have HCNT := Lib.hid hcnt
            obtain ⟨hc1, hc2, hc3⟩ := hBI.1
            have hb0 : (best == 0) = false := by simp; omega
            clear hbest hBI hcnt
            by_cases hfew : best < 29 * s
            · go_wp2_with fail
              refine bodyPost_ret (v := .tuple #[.slice none 0 0, .int .i64 0, .int .i64 0]) (by simp [results, Tryz.results24, go_sem]) rfl ?_
              exact ⟨rs, none, HSL.out, ⟨R, s, HBI.out, .inl ⟨by have := HCNT.out; omega, rfl⟩⟩, hBE, rfl⟩
            · clear hBE
              go_wp2_with fail
              go_loopw [14, 15, 16] (fun f t x wr => ∃ (ff tt : Int) (i : Nat), f = .int .i64 ff ∧ t = .int .i64 tt ∧ x = .int .i64 i ∧ i ≤ k ∧ FT rs s R i ff tt ∧ TopEnv w k H (.slice a np cp) g rs wr) (fun _ _ x _ => k - (intOf x).toNat)
              case atStart => exact ⟨-1, -1, 0, rfl, rfl, rfl, by omega, .inl ⟨rfl, rfl, fun j hj => by omega⟩, M⟩
              case round =>
                clear M
                obtain ⟨ff, tt, x, rfl, rfl, rfl, hx, hft, M⟩ := hrel
                obtain ⟨wd, rfl⟩ : ∃ wo : World, wo = wr := ⟨_, rfl⟩
                by_cases hxk : x < k
                · obtain ⟨r, hr⟩ : ∃ r, r = rs.getD x (0, 0, 0, 0) := ⟨_, rfl⟩
                  have hrx : rs[x]? = some r := by rw [hr]; exact getD_some (by omega)
                  obtain ⟨c0, c1, c2, c3⟩ := M.q x r hrx
                  have hrB := HSB.out r (List.mem_of_getElem? hrx)
                  have HF := Lib.hid (fun wz => full_any r s R wz hrB ⟨by omega, by omega⟩ ⟨by omega, by omega⟩)
                  have hd4 : decide ((x : Int) < (k : Int)) = true := by simp; omega
                  have HR0 := Lib.hid hr
                  have HFT := Lib.hid hft
                  have hglt := M.lt2
                  clear hr hrx hrB hft
                  go_wp2_with fail
                  refine (HF.out _).mono ?_
                  rintro e we ⟨rfl, hbe⟩
                  have M' := M.keep hbe
                  clear HF hbe c0 c1 c2 c3 M hglt
                  cases hfu : fullB r s R with
                  | true =>
                    have hf2 : fullB (rs.getD x (0, 0, 0, 0)) s R = true := HR0.out ▸ hfu
                    by_cases hneg : ff < 0
                    · have hft' := HFT.out.first hf2 hneg
                      have HFT' := Lib.hid hft'
                      clear hft' hf2 hfu HFT
                      go_wp2_with fail
                      go_roundw
                      case rel => exact ⟨x, x, x + 1, rfl, rfl, by go_num, by omega, HFT'.out, M'⟩
                      case measure => simp [intOf]; omega
                    · have hft' := HFT.out.later hf2 (by omega)
                      have HFT' := Lib.hid hft'
                      clear hft' hf2 hfu HFT
                      go_wp2_with fail
                      go_roundw
                      case rel => exact ⟨ff, x, x + 1, rfl, rfl, by go_num, by omega, HFT'.out, M'⟩
                      case measure => simp [intOf]; omega
                  | false =>
                    have hf2 : fullB (rs.getD x (0, 0, 0, 0)) s R = false := HR0.out ▸ hfu
                    have hft' := HFT.out.no hf2
                    have HFT' := Lib.hid hft'
                    clear hft' hf2 hfu HFT
                    go_wp2_with fail
                    go_roundw
                    case rel => exact ⟨ff, tt, x + 1, rfl, rfl, by go_num, by omega, HFT'.out, M'⟩
                    case measure => simp [intOf]; omega
                · obtain rfl : k = x := by omega
                  rw [← hl] at hft
                  obtain ⟨fa, fb, rfl, rfl, hFA, hLB⟩ := hft.done (by have := HCNT.out; omega)
                  rw [hl] at hft
                  have hab := hFA.le hLB
                  have hbk : fb < k := by rw [← hl]; exact hLB.1
                  have HFA := Lib.hid hFA
                  have HLB := Lib.hid hLB
                  clear hft hFA hLB
                  go_wp2_with fail
                  have hml := midF_length (rs := rs) (s := s) (R := R) (a := fa) (b := fb) (by omega)
                  have HML := Lib.hid hml
                  clear hml
                  go_loopw [17, 18, 19] (fun v x _ wr => ∃ j : Nat, x = .int .i64 ((fa + j : Nat) : Int) ∧ fa + j ≤ fb + 1 ∧ wr.ownsRow (g + 1) 3 1 v j (((midF rs s R fa fb).take j).map (Value.int .i64)) ∧ TopEnv w k H (.slice a np cp) g rs wr) (fun _ x _ _ => (fb + 1) - (intOf x).toNat)
                  case atStart => exact ⟨0, rfl, by omega, by rw [List.take_zero]; exact World.ownsRow_nil _ _ _ _, M⟩
                  case round =>
                    clear M
                    obtain ⟨j, rfl, hj, hown, M⟩ := hrel
                    obtain ⟨wd, rfl⟩ : ∃ wo : World, wo = wr := ⟨_, rfl⟩
                    by_cases hjb : fa + j ≤ fb
                    · obtain ⟨xx, hxe⟩ : ∃ xx : Nat, xx = fa + j := ⟨_, rfl⟩
                      obtain ⟨r, hr⟩ : ∃ r, r = rs.getD xx (0, 0, 0, 0) := ⟨_, rfl⟩
                      have hrx : rs[xx]? = some r := by rw [hr]; exact getD_some (by omega)
                      obtain ⟨c0, c1, c2, c3⟩ := M.q xx r hrx
                      have hrB := HSB.out r (List.mem_of_getElem? hrx)
                      have HF := Lib.hid (fun wz => full_any r s R wz hrB ⟨by omega, by omega⟩ ⟨by omega, by omega⟩)
                      have hmid : (midF rs s R fa fb).take (j + 1) = (midF rs s R fa fb).take j ++ [tvF r s R] := by
                        refine take_snoc ?_
                        have e := midF_get (rs := rs) (s := s) (R := R) (a := fa) (b := fb) (k := j) (by omega) hjb
                        rw [← hxe, ← hr] at e
                        rw [← e]; exact getD_some (by rw [HML.out]; omega)
                      have HMID := Lib.hid hmid
                      obtain ⟨rb1, rb2, rb3, rb4, rb5, rb6, rb7, rb8⟩ := hrB
                      have hglt := M.lt2
                      have hd5 : xx ≤ fb := by omega
                      have hxx : xx < k := by omega
                      have hj6 : j + 1 ≤ 1000 := by omega
                      have HXX := Lib.hid hxe
                      have HJB := Lib.hid hjb
                      rw [← hxe]
                      clear hr hrx hmid hxe hjb hj
                      go_wp2_with fail
                      refine (HF.out _).mono ?_
                      rintro e we ⟨rfl, hbe⟩
                      have hba : Below wd.heap.size wd we := binto (below_alloc wd _) hbe
                      have M' := M.keep hba
                      have hown' := own_keep hown hba
                      have S' := (Blk.new wd #[.int .i64 r.1, .int .i64 r.2.1, .int .i64 r.2.2.1, .int .i64 r.2.2.2] 94).keep hbe (Blk.new _ _ _).lt
                      obtain ⟨d0, d1, d2, d3, df⟩ := S'.c4
                      have hglt' := M'.lt2
                      have hgwe : g + 1 ≤ we.heap.size := by omega
                      obtain ⟨g1, g2⟩ := sR_bound (s := s) (R := R) ⟨by omega, by omega⟩ ⟨by omega, by omega⟩
                      have hwr : IntKind.i64.wrap (R * s) = R * s := IntWalk.i64_in _ (by omega)
                      clear HF hba c0 c1 c2 c3 M hown S' hbe hglt
                      cases hfu : fullB r s R with
                      | true =>
                        have htv : tvF r s R = r.1 := by simp [tvF, hfu]
                        have HTV := Lib.hid htv
                        clear hfu htv
                        go_wp2_with (at_builtin; refine wp_app1 _ rfl _ _ 25 rfl (g + 1) 3 (.int .i64 0) 1 8 Tryz.underlying25 Tryz.infoInt rfl (by decide) (by decide) _ _ _ rfl (hown'.alloc _) _ [.int .i64 (r.1)] rfl rfl (Blk.new _ _ _) (by simp [Value.oneCell']) (by omega) (by simp; omega) ?_; intro v' w4 hown4 hg4)
                        have hbb : Below (g + 1) we w4 := ((Below.refl (g + 1) we).alloc (by omega) _).grown hg4 (by simp; omega) (fun j hj => (hown'.lt j hj).1)
                        go_roundw
                        case rel => exact ⟨j + 1, congrArg (Value.int .i64) (by have := HXX.out; omega), by have := HXX.out; have := HJB.out; omega, by rw [HMID.out]; exact own_snoc hown4 HTV.out.symm, M'.keepB hbb⟩
                        case measure => have := HXX.out; have := HJB.out; simp [intOf]; omega
                      | false =>
                        have htv : tvF r s R = topF r s R := by simp [tvF, hfu]
                        clear hfu
                        have hsplit : (r.1 < 0) ∨ (0 ≤ r.1 ∧ 3 * s ≤ r.2.2.1 ∧ r.2.2.2 < 3 * s) ∨ (0 ≤ r.1 ∧ 3 * s ≤ r.2.2.1 ∧ 3 * s ≤ r.2.2.2) ∨ (0 ≤ r.1 ∧ r.2.2.1 < 3 * s ∧ 3 * s ≤ r.2.2.2 ∧ 0 ≤ r.2.1 - R * s + 1) ∨ (0 ≤ r.1 ∧ r.2.2.1 < 3 * s ∧ 3 * s ≤ r.2.2.2 ∧ r.2.1 - R * s + 1 < 0) ∨ (0 ≤ r.1 ∧ r.2.2.1 < 3 * s ∧ r.2.2.2 < 3 * s) := by omega
                        rcases hsplit with hs | hs | hs | hs | hs | hs
                        · have HTV : Hid (tvF r s R = -1) := by
                            show _ = _
                            rw [htv]; simp only [topF]; repeat' (first | omega | split)
                          clear htv
                          go_wp2_with (at_builtin; refine wp_app1 _ rfl _ _ 25 rfl (g + 1) 3 (.int .i64 0) 1 8 Tryz.underlying25 Tryz.infoInt rfl (by decide) (by decide) _ _ _ rfl (hown'.alloc _) _ [.int .i64 (-1)] rfl rfl (Blk.new _ _ _) (by simp [Value.oneCell']) (by omega) (by simp; omega) ?_; intro v' w4 hown4 hg4)
                          have hbb : Below (g + 1) we w4 := ((Below.refl (g + 1) we).alloc (by omega) _).grown hg4 (by simp; omega) (fun j hj => (hown'.lt j hj).1)
                          go_roundw
                          case rel => exact ⟨j + 1, congrArg (Value.int .i64) (by have := HXX.out; omega), by have := HXX.out; have := HJB.out; omega, by rw [HMID.out]; exact own_snoc hown4 HTV.out.symm, M'.keepB hbb⟩
                          case measure => have := HXX.out; have := HJB.out; simp [intOf]; omega
                        · have HTV : Hid (tvF r s R = r.1) := by
                            show _ = _
                            rw [htv]; simp only [topF]; repeat' (first | omega | split)
                          clear htv
                          go_wp2_with (at_builtin; refine wp_app1 _ rfl _ _ 25 rfl (g + 1) 3 (.int .i64 0) 1 8 Tryz.underlying25 Tryz.infoInt rfl (by decide) (by decide) _ _ _ rfl (hown'.alloc _) _ [.int .i64 (r.1)] rfl rfl (Blk.new _ _ _) (by simp [Value.oneCell']) (by omega) (by simp; omega) ?_; intro v' w4 hown4 hg4)
                          have hbb : Below (g + 1) we w4 := ((Below.refl (g + 1) we).alloc (by omega) _).grown hg4 (by simp; omega) (fun j hj => (hown'.lt j hj).1)
                          go_roundw
                          case rel => exact ⟨j + 1, congrArg (Value.int .i64) (by have := HXX.out; omega), by have := HXX.out; have := HJB.out; omega, by rw [HMID.out]; exact own_snoc hown4 HTV.out.symm, M'.keepB hbb⟩
                          case measure => have := HXX.out; have := HJB.out; simp [intOf]; omega
                        · have HTV : Hid (tvF r s R = -1) := by
                            show _ = _
                            rw [htv]; simp only [topF]; repeat' (first | omega | split)
                          clear htv
                          go_wp2_with (at_builtin; refine wp_app1 _ rfl _ _ 25 rfl (g + 1) 3 (.int .i64 0) 1 8 Tryz.underlying25 Tryz.infoInt rfl (by decide) (by decide) _ _ _ rfl (hown'.alloc _) _ [.int .i64 (-1)] rfl rfl (Blk.new _ _ _) (by simp [Value.oneCell']) (by omega) (by simp; omega) ?_; intro v' w4 hown4 hg4)
                          have hbb : Below (g + 1) we w4 := ((Below.refl (g + 1) we).alloc (by omega) _).grown hg4 (by simp; omega) (fun j hj => (hown'.lt j hj).1)
                          go_roundw
                          case rel => exact ⟨j + 1, congrArg (Value.int .i64) (by have := HXX.out; omega), by have := HXX.out; have := HJB.out; omega, by rw [HMID.out]; exact own_snoc hown4 HTV.out.symm, M'.keepB hbb⟩
                          case measure => have := HXX.out; have := HJB.out; simp [intOf]; omega
                        · have HTV : Hid (tvF r s R = r.2.1 - R * s + 1) := by
                            show _ = _
                            rw [htv]; simp only [topF]; repeat' (first | omega | split)
                          clear htv
                          go_wp2_with (at_builtin; refine wp_app1 _ rfl _ _ 25 rfl (g + 1) 3 (.int .i64 0) 1 8 Tryz.underlying25 Tryz.infoInt rfl (by decide) (by decide) _ _ _ rfl (hown'.alloc _) _ [.int .i64 (r.2.1 - R * s + 1)] rfl rfl (Blk.new _ _ _) (by simp [Value.oneCell']) (by omega) (by simp; omega) ?_; intro v' w4 hown4 hg4)
                          have hbb : Below (g + 1) we w4 := ((Below.refl (g + 1) we).alloc (by omega) _).grown hg4 (by simp; omega) (fun j hj => (hown'.lt j hj).1)
                          go_roundw
                          case rel => exact ⟨j + 1, congrArg (Value.int .i64) (by have := HXX.out; omega), by have := HXX.out; have := HJB.out; omega, by rw [HMID.out]; exact own_snoc hown4 HTV.out.symm, M'.keepB hbb⟩
                          case measure => have := HXX.out; have := HJB.out; simp [intOf]; omega
                        · have HTV : Hid (tvF r s R = -1) := by
                            show _ = _
                            rw [htv]; simp only [topF]; repeat' (first | omega | split)
                          clear htv
                          go_wp2_with (at_builtin; refine wp_app1 _ rfl _ _ 25 rfl (g + 1) 3 (.int .i64 0) 1 8 Tryz.underlying25 Tryz.infoInt rfl (by decide) (by decide) _ _ _ rfl (hown'.alloc _) _ [.int .i64 (-1)] rfl rfl (Blk.new _ _ _) (by simp [Value.oneCell']) (by omega) (by simp; omega) ?_; intro v' w4 hown4 hg4)
                          have hbb : Below (g + 1) we w4 := ((Below.refl (g + 1) we).alloc (by omega) _).grown hg4 (by simp; omega) (fun j hj => (hown'.lt j hj).1)
                          go_roundw
                          case rel => exact ⟨j + 1, congrArg (Value.int .i64) (by have := HXX.out; omega), by have := HXX.out; have := HJB.out; omega, by rw [HMID.out]; exact own_snoc hown4 HTV.out.symm, M'.keepB hbb⟩
                          case measure => have := HXX.out; have := HJB.out; simp [intOf]; omega
                        · have HTV : Hid (tvF r s R = -1) := by
                            show _ = _
                            rw [htv]; simp only [topF]; repeat' (first | omega | split)
                          clear htv
                          go_wp2_with (at_builtin; refine wp_app1 _ rfl _ _ 25 rfl (g + 1) 3 (.int .i64 0) 1 8 Tryz.underlying25 Tryz.infoInt rfl (by decide) (by decide) _ _ _ rfl (hown'.alloc _) _ [.int .i64 (-1)] rfl rfl (Blk.new _ _ _) (by simp [Value.oneCell']) (by omega) (by simp; omega) ?_; intro v' w4 hown4 hg4)
                          have hbb : Below (g + 1) we w4 := ((Below.refl (g + 1) we).alloc (by omega) _).grown hg4 (by simp; omega) (fun j hj => (hown'.lt j hj).1)
                          go_roundw
                          case rel => exact ⟨j + 1, congrArg (Value.int .i64) (by have := HXX.out; omega), by have := HXX.out; have := HJB.out; omega, by rw [HMID.out]; exact own_snoc hown4 HTV.out.symm, M'.keepB hbb⟩
                          case measure => have := HXX.out; have := HJB.out; simp [intOf]; omega
                    · have hjj : fb + 1 - fa = j := by omega
                      have htk : (midF rs s R fa fb).take j = midF rs s R fa fb := List.take_of_length_le (by rw [HML.out]; omega)
                      rw [htk] at hown
                      have hvo : ValsOk (midF rs s R fa fb) := by
                        have hall : ∀ v ∈ midF rs s R fa fb, -1 ≤ v ∧ v ≤ 641 := fun v hv => by
                          obtain ⟨i, hi, rfl⟩ := List.getElem_of_mem hv
                          have hi2 : i < fb + 1 - fa := by rw [← HML.out]; exact hi
                          have e := midF_get (rs := rs) (s := s) (R := R) (a := fa) (b := fb) (k := i) (by omega) (by omega)
                          simp only [List.getD, List.getElem?_eq_getElem hi, Option.getD_some] at e
                          rw [e]
                          have hb := HSB.out (rs[fa + i]'(by omega)) (List.getElem_mem _)
                          have hget : rs[fa + i]?.getD (0, 0, 0, 0) = rs[fa + i]'(by omega) := by simp [show fa + i < rs.length by omega]
                          rw [hget]
                          exact tv_bound hb ⟨by omega, by omega⟩ ⟨by omega, by omega⟩
                        exact ⟨by rw [HML.out]; omega, fun v hv => by have := hall v hv; omega, fun v hv => by have := hall v hv; omega⟩
                      have hrd := own_reads (f := Value.int .i64) (l := midF rs s R fa fb) (by rw [HML.out, hjj]; exact hown)
                      have HFILL := Lib.hid (filled_any _ _ wd hvo hrd)
                      have HJJ := Lib.hid hjj
                      obtain ⟨yy, hye⟩ : ∃ yy : Nat, yy = fa + j := ⟨_, rfl⟩
                      have hend : fb < yy := by omega
                      rw [← hye]
                      clear hye
                      clear hvo hrd hown htk hjj hjb hj
                      go_wp2_with fail
                      refine HFILL.out.mono ?_
                      rintro e w7 ⟨vf, rfl, hownf, hb7⟩
                      obtain ⟨mm, hmm⟩ : ∃ mm : Nat, mm = fb + 1 - fa := ⟨_, rfl⟩
                      rw [fillF_len, HML.out, ← hmm] at hownf
                      obtain ⟨gf, cf, rfl, hf1, hf2, hf3, hf4⟩ := own_some hownf (by omega)
                      have M7 := M.keep hb7
                      have hcell : ∀ i, i < mm → w7.cell? ⟨gf, i, none⟩ = some (.int .i64 ((fillF (midF rs s R fa fb)).getD i 0)) := fun i hi => by
                        refine (hownf.cellAt i (by omega)).trans ?_
                        rw [List.getElem?_map, getD_some (d := 0) (by rw [fillF_len, HML.out]; omega)]
                        rfl
                      have hgf : g < gf := by have := M.lt2; omega
                      have HCELL := Lib.hid hcell
                      have HMM := Lib.hid hmm
                      clear hmm
                      clear HFILL hb7 hownf hcell M
                      dsimp only
                      go_wp2_with fail
                      generalize @decide ((yy : Int) ≤ (fb : Int)) _ = bq
                      generalize @decide (yy ≤ fb) _ = bq2
                      go_loopw [21, 22] (fun v x wr => ∃ i : Nat, x = .int .i64 i ∧ i ≤ k ∧ Below w.heap.size w wr ∧ gf < wr.heap.size ∧ Hid (∀ i, i < mm → wr.cell? ⟨gf, i, none⟩ = some (.int .i64 ((fillF (midF rs s R fa fb)).getD i 0))) ∧ wr.ownsRow (gf + 1) 3 1 v i (((topsF rs s R fa fb).take i).map (Value.int .i64))) (fun _ x _ => k - (intOf x).toNat)
                      case atStart => exact ⟨0, rfl, by omega, M7.below, hf2, HCELL, by rw [List.take_zero]; exact World.ownsRow_nil _ _ _ _⟩
                      case round =>
                        clear M7 HCELL hf2
                        obtain ⟨x, rfl, hx, hBz, hgz, hcl, hown⟩ := hrel
                        obtain ⟨wz, rfl⟩ : ∃ wo : World, wo = wr := ⟨_, rfl⟩
                        by_cases hxk : x < k
                        · have hd6 : decide ((x : Int) < (k : Int)) = true := by simp; omega
                          have hget := topsF_get (rs := rs) (s := s) (R := R) hab (by omega) (show x < rs.length by omega)
                          have hts := take_snoc hget
                          have HTS := Lib.hid hts
                          by_cases hin : fa ≤ x ∧ x ≤ fb
                          · obtain ⟨hin1, hin2⟩ := hin
                            obtain ⟨q, hq⟩ : ∃ q, q = (fillF (midF rs s R fa fb)).getD (x - fa) 0 := ⟨_, rfl⟩
                            have hval : (if fa ≤ x ∧ x ≤ fb then (fillF (midF rs s R fa fb)).getD (x - fa) 0 else -1) = q := by rw [if_pos ⟨hin1, hin2⟩]; exact hq.symm
                            have hcx := hcl.out (x - fa) (by have := HMM.out; omega)
                            rw [← hq] at hcx
                            have HVAL := Lib.hid hval
                            have hix : ((x : Int) - (fa : Int)).toNat = x - fa := by omega
                            have hix2 : (0 : Int) ≤ (x : Int) - (fa : Int) := by omega
                            have hix3 : (x : Int) - (fa : Int) < (mm : Int) := by have := HMM.out; omega
                            clear hget hts hval hq
                            go_wp2_with (at_builtin; refine wp_app1 _ rfl _ _ 25 rfl (gf + 1) 3 (.int .i64 0) 1 8 Tryz.underlying25 Tryz.infoInt rfl (by decide) (by decide) _ _ _ rfl (hown.alloc _) _ [.int .i64 (q)] rfl rfl (Blk.new _ _ _) (by simp [Value.oneCell']) (by omega) (by simp; omega) ?_; intro v' w4 hown4 hg4)
                            have hbb : Below (gf + 1) wz w4 := ((Below.refl (gf + 1) wz).alloc (by omega) _).grown hg4 (by simp; omega) (fun j hj => (hown.lt j hj).1)
                            have hc4 : ∀ i, i < mm → w4.cell? ⟨gf, i, none⟩ = some (.int .i64 ((fillF (midF rs s R fa fb)).getD i 0)) := fun i hi => keep hbb (hcl.out i hi) (by omega)
                            have HC4 := Lib.hid hc4
                            clear hc4
                            go_roundw
                            case rel => exact ⟨x + 1, by go_num, by omega, hBz.trans (hbb.mono (by omega)), Nat.lt_of_lt_of_le hgz hbb.size, HC4, by rw [HTS.out]; exact own_snoc hown4 HVAL.out.symm⟩
                            case measure => simp [intOf]; omega
                          · have hval : (if fa ≤ x ∧ x ≤ fb then (fillF (midF rs s R fa fb)).getD (x - fa) 0 else -1) = -1 := if_neg hin
                            have HVAL := Lib.hid hval
                            clear hget hts hval
                            by_cases hlo : fa ≤ x
                            · have hhi : fb < x := by omega
                              clear hin
                              go_wp2_with (at_builtin; refine wp_app1 _ rfl _ _ 25 rfl (gf + 1) 3 (.int .i64 0) 1 8 Tryz.underlying25 Tryz.infoInt rfl (by decide) (by decide) _ _ _ rfl (hown.alloc _) _ [.int .i64 (-1)] rfl rfl (Blk.new _ _ _) (by simp [Value.oneCell']) (by omega) (by simp; omega) ?_; intro v' w4 hown4 hg4)
                              have hbb : Below (gf + 1) wz w4 := ((Below.refl (gf + 1) wz).alloc (by omega) _).grown hg4 (by simp; omega) (fun j hj => (hown.lt j hj).1)
                              have hc4 : ∀ i, i < mm → w4.cell? ⟨gf, i, none⟩ = some (.int .i64 ((fillF (midF rs s R fa fb)).getD i 0)) := fun i hi => keep hbb (hcl.out i hi) (by omega)
                              have HC4 := Lib.hid hc4
                              clear hc4
                              go_roundw
                              case rel => exact ⟨x + 1, by go_num, by omega, hBz.trans (hbb.mono (by omega)), Nat.lt_of_lt_of_le hgz hbb.size, HC4, by rw [HTS.out]; exact own_snoc hown4 HVAL.out.symm⟩
                              case measure => simp [intOf]; omega
                            · clear hin
                              go_wp2_with (at_builtin; refine wp_app1 _ rfl _ _ 25 rfl (gf + 1) 3 (.int .i64 0) 1 8 Tryz.underlying25 Tryz.infoInt rfl (by decide) (by decide) _ _ _ rfl (hown.alloc _) _ [.int .i64 (-1)] rfl rfl (Blk.new _ _ _) (by simp [Value.oneCell']) (by omega) (by simp; omega) ?_; intro v' w4 hown4 hg4)
                              have hbb : Below (gf + 1) wz w4 := ((Below.refl (gf + 1) wz).alloc (by omega) _).grown hg4 (by simp; omega) (fun j hj => (hown.lt j hj).1)
                              have hc4 : ∀ i, i < mm → w4.cell? ⟨gf, i, none⟩ = some (.int .i64 ((fillF (midF rs s R fa fb)).getD i 0)) := fun i hi => keep hbb (hcl.out i hi) (by omega)
                              have HC4 := Lib.hid hc4
                              clear hc4
                              go_roundw
                              case rel => exact ⟨x + 1, by go_num, by omega, hBz.trans (hbb.mono (by omega)), Nat.lt_of_lt_of_le hgz hbb.size, HC4, by rw [HTS.out]; exact own_snoc hown4 HVAL.out.symm⟩
                              case measure => simp [intOf]; omega
                        · obtain rfl : x = k := by omega
                          have hlen := topsF_len (rs := rs) (s := s) (R := R) hab (by omega)
                          rw [hl] at hlen
                          have htk : (topsF rs s R fa fb).take x = topsF rs s R fa fb := List.take_of_length_le (by omega)
                          rw [htk] at hown
                          have HLEN := Lib.hid hlen
                          clear htk hlen
                          go_wp2_with fail
                          go_ret3
                          refine ⟨rs, some (topsF rs s R fa fb, s, R), HSL.out, ⟨R, s, HBI.out, .inr ⟨by have := HCNT.out; omega, fa, fb, HFA.out, HLB.out, rfl⟩⟩, hBz, _, rfl, ?_⟩
                          rw [HLEN.out]
                          exact own_weaken hown (by omega)

end Go.Proofs.YtnfgedbcfclnmaaGreat
