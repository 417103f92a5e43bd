/- The walk of locate.Find, for a valid image. -/
import Derived.Test.YtnfgedbcfclnmaaGreatFindF
set_option linter.unusedVariables false
set_option linter.unusedSimpArgs false
namespace Go.Proofs.YtnfgedbcfclnmaaGreat
open Go.RowKit

set_option maxRecDepth 100000 in
set_option maxHeartbeats 8000000 in
theorem find_any (W H : Nat) (a : Option Addr) (np cp : Nat) (px : List Int) (w : World) (h : ImgOk w W H (.slice a np cp) px) :
    Calls Tryz.prog 4 #[.agg #[.int .i64 W, .int .i64 H, .slice a np cp]] w (FindRet (W, H, px) w) := by
  have hio := h.iok
  have hnp : np = px.length := by obtain ⟨_, _, e, _⟩ := h.rd; injection e
  have hV := validate_any W H a np cp
  rw [imageFaultF_ok2 h.w1 h.w2 h.h1 h.h2 (by rw [hnp]; exact h.len)] at hV
  have HV := Lib.hid hV
  have HI := Lib.hid h
  have HIO := Lib.hid hio
  clear hV h hio hnp
  go_enter Tryz.func4, Tryz.ntmps4
  go_wp2_with fail
  generalize hW0 : World.alloc (World.alloc (World.alloc w _) _) _ = W0
  have E0 : FnEnv w #[.int .i64 W, .int .i64 H, .slice a np cp] W0 := by
    rw [← hW0]
    exact ⟨(by repeat (first | (with_reducible exact Below.refl _ _) | (with_reducible assumption) | ((with_reducible refine Below.setCell ?_ ?_ _); rotate_left; (focus (first | omega | (simp; done) | (simp; omega)))) | (with_reducible refine Below.drew ?_) | (with_reducible refine below_drewN ?_ _) | ((with_reducible refine Below.alloc ?_ ?_ _); rotate_left; (focus (first | omega | (simp; done) | (simp; omega)))))), ((Blk.new _ _ _).alloc _).alloc _, (Blk.newAt _ _ (by simp)).alloc _, Blk.newAt _ _ (by simp)⟩
  clear hW0
  obtain ⟨k0, k1, k2, kf, klt⟩ := E0.img.d3
  go_wp2_with fail
  refine (HV.out W0).mono ?_
  rintro e w1 ⟨rfl, hb1⟩
  have E1 := E0.keep hb1
  clear k0 k1 k2 kf klt E0 hb1 HV
  go_wp2_with fail
  generalize hW2 : World.alloc w1 _ = W2
  have E2 : FnEnv w #[.int .i64 W, .int .i64 H, .slice a np cp] W2 := by rw [← hW2]; exact E1.keep (by repeat (first | (with_reducible exact Below.refl _ _) | (with_reducible assumption) | ((with_reducible refine Below.setCell ?_ ?_ _); rotate_left; (focus (first | omega | (simp; done) | (simp; omega)))) | (with_reducible refine Below.drew ?_) | (with_reducible refine below_drewN ?_ _) | ((with_reducible refine Below.alloc ?_ ?_ _); rotate_left; (focus (first | omega | (simp; done) | (simp; omega))))))
  clear hW2 E1
  go_loopw [5, 8, 9, 10, 14, 16, 19, 27] (fun v _ _ _ _ _ _ x wr => ∃ (n : Nat) (xs : Nat → Option Fr) (ys : List Value), x = .int .i64 n ∧ n ≤ 8 ∧ Hid (∀ t, t < n → AccIs (upI (W, H, px) t) (xs t)) ∧ FnSt w #[.int .i64 W, .int .i64 H, .slice a np cp] v (accL xs n) ys wr) (fun _ _ _ _ _ _ _ x _ => 8 - (intOf x).toNat)
  case atStart => exact ⟨0, fun _ => none, [], rfl, by omega, fun t ht => by omega, E2, World.ownsRow_nil _ _ _ _, fun t l s R o rest e => by cases e⟩
  case round =>
    clear E2
    obtain ⟨n, xs, ys, rfl, hn, hacc, E⟩ := hrel
    obtain ⟨wb, rfl⟩ : ∃ wo : World, wo = wr := ⟨_, rfl⟩
    by_cases hn8 : n < 8
    · have hd1 : decide ((n : Int) < 8) = true := by simp; omega
      obtain ⟨q, hq⟩ : ∃ q : Nat, (q : Int) = invF n := ⟨(invF n).toNat, by have := inv_rng (t := (n : Int)) ⟨by omega, by omega⟩; omega⟩
      have hq8 : q < 8 := by have := inv_rng (t := (n : Int)) ⟨by omega, by omega⟩; omega
      have hIN := inverse_yes n wb ⟨by omega, by omega⟩
      rw [← hq] at hIN
      obtain ⟨u, hu⟩ : ∃ u, u = upI (W, H, px) n := ⟨_, rfl⟩
      have huq : u = turnI (W, H, px) q := by rw [hu, upI, ← hq, Int.toNat_natCast]
      have huo : IOk u := by rw [huq]; exact HIO.out.turn q
      have hTN := fun wz hI => turn_any W H a np cp px q wz hI hq8
      rw [← huq] at hTN
      have HTN := Lib.hid hTN
      have HU := Lib.hid hu
      have HUO := Lib.hid huo
      have HNX : ∀ x : Option Fr, AccIs u x → ∃ xs', (∀ t, t < n + 1 → AccIs (upI (W, H, px) t) (xs' t)) ∧ accL xs' (n + 1) = accL xs n ++ (x.map fun f => (n, f)).toList := fun x hx => ⟨fun t => if t = n then x else xs t, fun t ht => by
        dsimp only
        by_cases e : t = n
        · rw [if_pos e, e, ← hu]; exact hx
        · rw [if_neg e]; exact hacc.out t (by omega), by
        rw [accL_succ, accL_congr (ys := xs) fun t ht => by rw [if_neg (by omega)]]
        simp⟩
      have HNX := Lib.hid HNX
      have hacl := accL_len xs n
      generalize accL xs n = acc at *
      clear hTN hu huq huo hq hacc
      go_wp2_with fail
      refine hIN.mono ?_
      rintro e w3 ⟨rfl, hb3⟩
      have E3 := E.keep hb3
      clear E hb3 hIN
      obtain ⟨k0, k1, k2, kf, klt⟩ := E3.env.img.d3
      have klt1 : w.heap.size < w3.heap.size + 1 := by omega
      dsimp only
      go_wp2_with fail
      generalize hW4 : World.alloc w3 _ = W4
      have E4 := E3.keep (show Below w3.heap.size w3 W4 by rw [← hW4]; exact (by repeat (first | (with_reducible exact Below.refl _ _) | (with_reducible assumption) | ((with_reducible refine Below.setCell ?_ ?_ _); rotate_left; (focus (first | omega | (simp; done) | (simp; omega)))) | (with_reducible refine Below.drew ?_) | (with_reducible refine below_drewN ?_ _) | ((with_reducible refine Below.alloc ?_ ?_ _); rotate_left; (focus (first | omega | (simp; done) | (simp; omega)))))))
      clear hW4 E3 k0 k1 k2 kf klt klt1
      refine (HTN.out W4 (HI.out.below E4.env.below)).mono ?_
      rintro e w5 ⟨g, rfl, hg, hL, hb5⟩
      have E5 := E4.keep hb5
      clear E4 hb5 HTN
      dsimp only
      go_wp2_with fail
      generalize hW6 : World.alloc (World.alloc w5 _) _ = W6
      have hb6 : Below w5.heap.size w5 W6 := by rw [← hW6]; exact (by repeat (first | (with_reducible exact Below.refl _ _) | (with_reducible assumption) | ((with_reducible refine Below.setCell ?_ ?_ _); rotate_left; (focus (first | omega | (simp; done) | (simp; omega)))) | (with_reducible refine Below.drew ?_) | (with_reducible refine below_drewN ?_ _) | ((with_reducible refine Below.alloc ?_ ?_ _); rotate_left; (focus (first | omega | (simp; done) | (simp; omega))))))
      have E6 := E5.keep hb6
      have hL6 := hL.keep hb6 hL.lt
      have U6 : Blk W6 w5.heap.size #[.int .i64 u.1, .int .i64 u.2.1, .slice (some ⟨g, 0, none⟩) u.2.2.length u.2.2.length] 24 := by rw [← hW6]; exact (Blk.new _ _ _).alloc _
      clear hW6 hb6 E5 hL hg
      obtain ⟨bU, hbU⟩ : ∃ bU, bU = w5.heap.size := ⟨_, rfl⟩
      rw [← hbU] at U6 ⊢
      clear hbU
      refine (columns_any u.1 u.2.1 _ _ _ u.2.2 W6 (HUO.out.imgL hL6)).mono ?_
      rintro e w7 ⟨rs, o, hst, hcols, hb7, hm⟩
      have E7 := E6.keep hb7
      have hL7 := hL6.keep hb7 hL6.lt
      have U7 := U6.keep hb7 U6.lt
      have hsz6 : w.heap.size + 3 ≤ W6.heap.size := E6.env.f.lt
      have hCF : ColsFor u o := ⟨rs, hst, hcols⟩
      clear E6 hL6 U6 hst hcols
      cases o with
      | none =>
        dsimp only at hm
        subst hm
        obtain ⟨xs', hx1, hx2⟩ := HNX.out none ⟨none, hCF, .inl ⟨rfl, rfl⟩⟩
        have HX1 := Lib.hid hx1
        have HX2 := Lib.hid hx2
        clear hx1 hx2 hCF hb7
        dsimp only
        go_wp2_with fail
        refine ⟨⟨n + 1, xs', ys, by go_num, by omega, HX1.out, ?_⟩, by simp [intOf]; omega⟩
        rw [HX2.out]
        simp only [Option.map_none, Option.toList_none, List.append_nil]
        exact E7.keep (by repeat (first | (with_reducible exact Below.refl _ _) | (with_reducible assumption) | ((with_reducible refine Below.setCell ?_ ?_ _); rotate_left; (focus (first | omega | (simp; done) | (simp; omega)))) | (with_reducible refine Below.drew ?_) | (with_reducible refine below_drewN ?_ _) | ((with_reducible refine Below.alloc ?_ ?_ _); rotate_left; (focus (first | omega | (simp; done) | (simp; omega))))))
      | some t =>
        obtain ⟨l, s, R⟩ := t
        dsimp only at hm
        obtain ⟨tv, rfl, hov⟩ := hm
        obtain ⟨hok, hlW, hs, hR⟩ := hCF.ok HUO.out
        replace hov := own_base hov hsz6
        have hrd := own_reads hov
        have HCF := Lib.hid hCF
        have HOV := Lib.hid hov
        obtain ⟨ta, tc, rfl, t1, t2, -⟩ := id hrd
        have HRD := Lib.hid hrd
        have HOK := Lib.hid hok
        have HLW := Lib.hid hlW
        obtain ⟨u0, u1, u2, uf, ult⟩ := U7.d3
        have ult1 : bU < w7.heap.size + 1 := by omega
        clear hCF hov hrd hok hlW
        dsimp only
        go_wp2_with fail
        generalize hW8 : World.alloc w7 _ = W8
        have hb8 : Below w7.heap.size w7 W8 := by rw [← hW8]; exact (by repeat (first | (with_reducible exact Below.refl _ _) | (with_reducible assumption) | ((with_reducible refine Below.setCell ?_ ?_ _); rotate_left; (focus (first | omega | (simp; done) | (simp; omega)))) | (with_reducible refine Below.drew ?_) | (with_reducible refine below_drewN ?_ _) | ((with_reducible refine Below.alloc ?_ ?_ _); rotate_left; (focus (first | omega | (simp; done) | (simp; omega))))))
        have F8 : Blk W8 w7.heap.size #[.int .i64 0, .int .i64 0] 29 := by rw [← hW8]; exact Blk.new _ _ _
        have hs8 : W8.heap.size = w7.heap.size + 1 := by rw [← hW8]; simp
        clear hW8 u0 u1 u2 uf ult ult1
        refine (lefts_ok u.1 u.2.1 _ _ _ _ u.2.2 l s R W8 (HUO.out.imgL (hL7.keep hb8 hL7.lt)) (HRD.out.below hb8) (by rw [HLW.out]) HOK.out hs hR).mono ?_
        rintro e w9 ⟨out, hE, lv, rfl, hol, hb9⟩
        have F9 := F8.keep hb9 F8.lt
        have hb79 : Below w7.heap.size w7 w9 := binto hb8 hb9
        have hol' : w9.ownsRow (w7.heap.size + 1) 3 1 lv (fillF out).length ((fillF out).map (Value.int .i64)) := by rw [fillF_len]; exact own_base hol (by omega)
        have hlen : ((fillF out).length : Int) = R * s := by rw [fillF_len]; exact hE.1
        have HE := Lib.hid hE
        obtain ⟨fo, hfo⟩ : ∃ fo, fo = fillF out := ⟨_, rfl⟩
        rw [← hfo] at hol' hlen
        have HFO := Lib.hid hfo
        have hro := own_reads hol'
        obtain ⟨la, lc, rfl, l1, l2, -⟩ := id hro
        have HRO := Lib.hid hro
        have HOL := Lib.hid hol'
        have HLEN := Lib.hid hlen
        clear hro hol' hlen hfo
        obtain ⟨f0, f1, ff, flt⟩ := F9.d2
        have E9 := E7.keep hb79
        obtain ⟨k0, k1, k2, kf, klt⟩ := E9.env.img.d3
        have hsz7 := E7.env.f.lt
        clear F8 hs8 hb8 hb9 hol hE E9
        dsimp only
        go_wp2_with fail
        generalize hW10 : World.alloc (World.setCell (World.setCell w9 _ _) _ _) _ = W10
        have hb10 : Below w7.heap.size w7 W10 := by rw [← hW10]; exact ((hb79.setCell (Nat.le_refl _) _).setCell (Nat.le_refl _) _).alloc (by simp; have := hb79.size; omega) _
        have X10 : Blk W10 w9.heap.size #[.int .i64 n, .int .i64 s, .int .i64 R, .slice ta l.length tc, .slice la fo.length lc] 27 := by rw [← hW10]; exact Blk.newAt _ _ (by simp)
        have HOL10 : W10.ownsRow (w7.heap.size + 1) 3 1 (.slice la fo.length lc) fo.length (fo.map (Value.int .i64)) := by
          rw [← hW10]; exact own_keep (own_set (own_set HOL.out (by omega) _) (by omega) _) (below_alloc _ _)
        have HOV10 := own_keep HOV.out hb10
        have E10 := E7.keep hb10
        have hUsz := HUO.out
        obtain ⟨bX, hbX⟩ : ∃ bX, bX = w9.heap.size := ⟨_, rfl⟩
        rw [← hbX] at X10 ⊢
        have hsz10 : w.heap.size + 3 ≤ w7.heap.size := by omega
        have hro := own_reads HOL10
        have hrv := own_reads HOV10
        clear hW10 hbX E7 hL7 U7 hb7 hb79 F9 f0 f1 ff flt k0 k1 k2 kf klt HOL HOV HRO HRD hb10 hsz7
        by_cases hfo : listOk fo = true
        · have hA5 : agreeN u.1 u.2.1 u.2.2 l fo s (levN R) ≤ 4930 := by
            refine Nat.le_trans List.countP_le_length ?_
            rcases hR with rfl | rfl <;> simp [rowsN, levN]
          have hB5 : allN (levN R) ≤ 4930 := by
            refine Nat.le_trans List.countP_le_length ?_
            rcases hR with rfl | rfl <;> simp [rowsN, levN]
          have hag := agree_ok W H a np cp px n s R (.slice ta l.length tc) (.slice la fo.length lc) l fo W10 (HI.out.below E10.env.below) hn8 hrv hro hs hR u HU.out (by rw [HLW.out]) HLEN.out HOK.out hfo
          have HACC : AccIs u (if 3 * allN (levN R) ≤ 4 * agreeN u.1 u.2.1 u.2.2 l fo s (levN R) then some (l, s, R, fo) else none) := by
            refine ⟨_, HCF.out, .inr ⟨l, s, R, out, rfl, HE.out, ?_⟩⟩
            rw [← HFO.out]
            by_cases g : 3 * allN (levN R) ≤ 4 * agreeN u.1 u.2.1 u.2.2 l fo s (levN R)
            · rw [if_pos g, if_pos ⟨hfo, g⟩]
            · rw [if_neg g, if_neg (fun x => g x.2)]
          generalize agreeN u.1 u.2.1 u.2.2 l fo s (levN R) = cA at *
          generalize allN (levN R) = cB at *
          have hw1 : IntKind.i64.wrap (4 * (cA : Int)) = 4 * (cA : Int) := IntWalk.i64_in _ (by omega)
          have hw2 : IntKind.i64.wrap (3 * (cB : Int)) = 3 * (cB : Int) := IntWalk.i64_in _ (by omega)
          obtain ⟨xs', hx1, hx2⟩ := HNX.out _ HACC
          have HX1 := Lib.hid hx1
          clear hx1 HACC hfo hro hrv
          refine hag.mono ?_
          rintro e w11 ⟨rfl, hb11⟩
          have E11 := E10.keep hb11
          have X11 := X10.keep hb11 X10.lt
          have HOL11 := own_keep HOL10 hb11
          have HOV11 := own_keep HOV10 hb11
          clear E10 X10 HOL10 HOV10 hb11 hag
          obtain ⟨x0, x1, x2, x3, x4, xf, xlt⟩ := X11.d5
          have xlt1 : bX < w11.heap.size + 1 := by omega
          by_cases hge : 3 * cB ≤ 4 * cA
          · have hd2 : decide (3 * (cB : Int) ≤ 4 * (cA : Int)) = true := by simp; omega
            rw [if_pos hge] at hx2
            have hsz11 := E11.env.f.lt
            have HX2 := Lib.hid hx2
            clear hx2
            dsimp only
            go_wp2_with (at_builtin; refine wp_app1 _ rfl _ _ 39 rfl (w.heap.size + 3) 27 (.agg #[.int .i64 0, .int .i64 0, .int .i64 0, .slice none 0 0, .slice none 0 0]) 5 72 Tryz.underlying39 Tryz.infoFrame rfl (by decide) (by decide) _ _ _ rfl ((E11.own.alloc _).alloc _) _ [.int .i64 n, .int .i64 s, .int .i64 R, .slice ta l.length tc, .slice la fo.length lc] rfl rfl (Blk.newAt _ _ (by simp)) (by simp [Value.oneCell']) (by omega) (by simp; omega) ?_; intro v' w12 hown12 hg12)
            have E12 := (E11.keep (show Below w11.heap.size w11 (World.alloc (World.alloc w11 (.cells #[.int .i64 0, .int .i64 0] 29)) (.cells #[.int .i64 n, .int .i64 s, .int .i64 R, .slice ta l.length tc, .slice la fo.length lc] 27)) from (by repeat (first | (with_reducible exact Below.refl _ _) | (with_reducible assumption) | ((with_reducible refine Below.setCell ?_ ?_ _); rotate_left; (focus (first | omega | (simp; done) | (simp; omega)))) | (with_reducible refine Below.drew ?_) | (with_reducible refine below_drewN ?_ _) | ((with_reducible refine Below.alloc ?_ ?_ _); rotate_left; (focus (first | omega | (simp; done) | (simp; omega)))))))).push hg12 hown12 ((HOV11.alloc _).alloc _) ((HOL11.alloc _).alloc _) (Nat.le_refl _) (by omega)
            refine ⟨⟨n + 1, xs', ys ++ [.int .i64 n, .int .i64 s, .int .i64 R, .slice ta l.length tc, .slice la fo.length lc], by go_num, by omega, HX1.out, ?_⟩, by simp [intOf]; omega⟩
            rw [HX2.out]
            exact E12
          · have hd2 : decide (3 * (cB : Int) ≤ 4 * (cA : Int)) = false := by simp; omega
            rw [if_neg hge] at hx2
            have HX2 := Lib.hid hx2
            clear hx2
            dsimp only
            go_wp2_with fail
            refine ⟨⟨n + 1, xs', ys, by go_num, by omega, HX1.out, ?_⟩, by simp [intOf]; omega⟩
            rw [HX2.out]
            simp only [Option.map_none, Option.toList_none, List.append_nil]
            exact E11.keep (by repeat (first | (with_reducible exact Below.refl _ _) | (with_reducible assumption) | ((with_reducible refine Below.setCell ?_ ?_ _); rotate_left; (focus (first | omega | (simp; done) | (simp; omega)))) | (with_reducible refine Below.drew ?_) | (with_reducible refine below_drewN ?_ _) | ((with_reducible refine Below.alloc ?_ ?_ _); rotate_left; (focus (first | omega | (simp; done) | (simp; omega))))))
        · have hag := agree_bad W H (.slice a np cp) n s R (.slice ta l.length tc) (.slice la fo.length lc) W10 (fun wz hbz => open_bad_lefts W H a np cp px n s R (.slice ta l.length tc) (.slice la fo.length lc) l fo wz (HI.out.below (E10.env.below.trans (hbz.mono E10.env.below.size))) hn8 (hrv.below hbz) (hro.below hbz) hs hR (by rw [HLW.out, HU.out]; rfl) HLEN.out HOK.out (by simpa using hfo))
          have HACC : AccIs u none := by
            refine ⟨_, HCF.out, .inr ⟨l, s, R, out, rfl, HE.out, ?_⟩⟩
            rw [← HFO.out, if_neg (fun x => hfo x.1)]
          obtain ⟨xs', hx1, hx2⟩ := HNX.out _ HACC
          have HX1 := Lib.hid hx1
          have HX2 := Lib.hid hx2
          clear hx1 hx2 HACC hfo hro hrv
          refine hag.mono ?_
          rintro e w11 ⟨rfl, hb11⟩
          have E11 := E10.keep hb11
          clear E10 X10 HOL10 HOV10 hb11 hag
          dsimp only
          go_wp2_with fail
          refine ⟨⟨n + 1, xs', ys, by go_num, by omega, HX1.out, ?_⟩, by simp [intOf]; omega⟩
          rw [HX2.out]
          simp only [Option.map_none, Option.toList_none, List.append_nil]
          exact E11.keep (by repeat (first | (with_reducible exact Below.refl _ _) | (with_reducible assumption) | ((with_reducible refine Below.setCell ?_ ?_ _); rotate_left; (focus (first | omega | (simp; done) | (simp; omega)))) | (with_reducible refine Below.drew ?_) | (with_reducible refine below_drewN ?_ _) | ((with_reducible refine Below.alloc ?_ ?_ _); rotate_left; (focus (first | omega | (simp; done) | (simp; omega))))))
    · obtain rfl : n = 8 := by omega
      obtain ⟨acc, hea⟩ : ∃ acc, acc = accL xs 8 := ⟨_, rfl⟩
      rw [← hea] at E
      have HEA := Lib.hid hea.symm
      clear hea
      obtain ⟨r0, r1, r2, r3, r4, rf, rlt⟩ := E.env.res.d5
      obtain ⟨f0, f1, ff, flt⟩ := E.env.f.d2
      have hB := E.env.below
      have flt1 : w.heap.size + 1 + 1 < wb.heap.size + 1 := by omega
      have rlt1 : w.heap.size + 1 < wb.heap.size + 1 := by omega
      cases acc with
      | nil =>
        have ho := E.own.2
        rcases ho with ⟨rfl, -⟩ | ⟨g, cap, cur, rfl, -⟩
        · clear E
          go_wp2_with (go_at_call 16; refine (faultL_exact _ _ _).mono ?_; rintro e w' ⟨rfl, rfl⟩)
          refine bodyPost_ret (v := .tuple #[.agg #[.int .i64 0, .int .i64 0, .int .i64 0, .slice none 0 0, .slice none 0 0], .agg #[.int .i64 12, .int .i64 (-1)]]) (by simp [results, Tryz.results4, go_sem, r0, r1, r2, r3, r4, rf, rlt, rlt1, f0, f1, ff, flt, flt1]) rfl ⟨xs, hacc.out, ?_⟩
          rw [HEA.out]
          exact ⟨(by repeat (first | (with_reducible exact Below.refl _ _) | (with_reducible assumption) | ((with_reducible refine Below.setCell ?_ ?_ _); rotate_left; (focus (first | omega | (simp; done) | (simp; omega)))) | (with_reducible refine Below.drew ?_) | (with_reducible refine below_drewN ?_ _) | ((with_reducible refine Below.alloc ?_ ?_ _); rotate_left; (focus (first | omega | (simp; done) | (simp; omega)))))), rfl⟩
        · clear E
          go_wp2_with (go_at_call 16; refine (faultL_exact _ _ _).mono ?_; rintro e w' ⟨rfl, rfl⟩)
          refine bodyPost_ret (v := .tuple #[.agg #[.int .i64 0, .int .i64 0, .int .i64 0, .slice none 0 0, .slice none 0 0], .agg #[.int .i64 12, .int .i64 (-1)]]) (by simp [results, Tryz.results4, go_sem, r0, r1, r2, r3, r4, rf, rlt, rlt1, f0, f1, ff, flt, flt1]) rfl ⟨xs, hacc.out, ?_⟩
          rw [HEA.out]
          exact ⟨(by repeat (first | (with_reducible exact Below.refl _ _) | (with_reducible assumption) | ((with_reducible refine Below.setCell ?_ ?_ _); rotate_left; (focus (first | omega | (simp; done) | (simp; omega)))) | (with_reducible refine Below.drew ?_) | (with_reducible refine below_drewN ?_ _) | ((with_reducible refine Below.alloc ?_ ?_ _); rotate_left; (focus (first | omega | (simp; done) | (simp; omega)))))), rfl⟩
      | cons x rest =>
        cases rest with
        | nil =>
          obtain ⟨t, l, s, R, o⟩ := x
          obtain ⟨tv, lv, zs, hys, htv, hlv⟩ := E.first t l s R o [] rfl
          have hown := E.own
          rw [hys] at hown
          obtain ⟨g, cap, rfl, hg1, hg2, hg3, hg4⟩ := own_some hown (by simp)
          have c0 := hown.cellAt 0 (by simp)
          have c1 := hown.cellAt 1 (by simp)
          have c2 := hown.cellAt 2 (by simp)
          have c3 := hown.cellAt 3 (by simp)
          have c4 := hown.cellAt 4 (by simp)
          simp only [List.getElem?_cons_zero, List.getElem?_cons_succ] at c0 c1 c2 c3 c4
          obtain ⟨ta, tc, rfl, -⟩ := own_reads htv
          obtain ⟨la, lc, rfl, -⟩ := own_reads hlv
          have HTV := Lib.hid htv
          have HLV := Lib.hid hlv
          clear E hown hys htv hlv
          go_wp2_with fail
          refine bodyPost_ret (v := .tuple #[.agg #[.int .i64 t, .int .i64 s, .int .i64 R, .slice ta l.length tc, .slice la o.length lc], .agg #[.int .i64 0, .int .i64 0]]) (by simp [results, Tryz.results4, go_sem, r0, r1, r2, r3, r4, rf, rlt, f0, f1, ff, flt]) rfl ⟨xs, hacc.out, ?_⟩
          rw [HEA.out]
          refine ⟨(by repeat (first | (with_reducible exact Below.refl _ _) | (with_reducible assumption) | ((with_reducible refine Below.setCell ?_ ?_ _); rotate_left; (focus (first | omega | (simp; done) | (simp; omega)))) | (with_reducible refine Below.drew ?_) | (with_reducible refine below_drewN ?_ _) | ((with_reducible refine Below.alloc ?_ ?_ _); rotate_left; (focus (first | omega | (simp; done) | (simp; omega)))))), _, _, rfl, own_base (base := w.heap.size + 3) ?_ (by omega), own_base (base := w.heap.size + 3) ?_ (by omega)⟩
          · repeat (refine own_set ?_ (by omega) _)
            exact HTV.out
          · repeat (refine own_set ?_ (by omega) _)
            exact HLV.out
        | cons y rest =>
          have hown := E.own
          obtain ⟨g, cap, hv, hg1, hg2, hg3, hg4⟩ := own_some hown (by simp)
          obtain ⟨m, hm⟩ : ∃ m, m = (x :: y :: rest).length := ⟨_, rfl⟩
          have hm2 : 2 ≤ m := by rw [hm]; simp
          rw [← hm] at hv
          subst hv
          have e0 : ((m : Int) == 0) = false := by simp; omega
          have e1 : ((m : Int) == 1) = false := by simp; omega
          clear E hown hm
          go_wp2_with (go_at_call 16; refine (faultL_exact _ _ _).mono ?_; rintro e w' ⟨rfl, rfl⟩)
          refine bodyPost_ret (v := .tuple #[.agg #[.int .i64 0, .int .i64 0, .int .i64 0, .slice none 0 0, .slice none 0 0], .agg #[.int .i64 23, .int .i64 (-1)]]) (by simp [results, Tryz.results4, go_sem, r0, r1, r2, r3, r4, rf, rlt, rlt1, f0, f1, ff, flt, flt1]) rfl ⟨xs, hacc.out, ?_⟩
          rw [HEA.out]
          exact ⟨(by repeat (first | (with_reducible exact Below.refl _ _) | (with_reducible assumption) | ((with_reducible refine Below.setCell ?_ ?_ _); rotate_left; (focus (first | omega | (simp; done) | (simp; omega)))) | (with_reducible refine Below.drew ?_) | (with_reducible refine below_drewN ?_ _) | ((with_reducible refine Below.alloc ?_ ?_ _); rotate_left; (focus (first | omega | (simp; done) | (simp; omega)))))), rfl⟩

end Go.Proofs.YtnfgedbcfclnmaaGreat
