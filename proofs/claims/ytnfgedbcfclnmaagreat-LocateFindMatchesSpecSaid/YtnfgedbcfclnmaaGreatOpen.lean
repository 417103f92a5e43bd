/- page.Cell for valid arguments; locate.Open. -/
import Derived.Test.YtnfgedbcfclnmaaGreatCell
import Derived.Test.YtnfgedbcfclnmaaGreatKit5
import Derived.Test.YtnfgedbcfclnmaaGreatTurnW
set_option linter.unusedVariables false
set_option linter.unusedSimpArgs false
namespace Go.Proofs.YtnfgedbcfclnmaaGreat
open Go.RowKit

set_option maxRecDepth 100000 in
set_option maxHeartbeats 2000000 in
theorem Cell_any (L r c : Nat) (w : World) (hL : L = 2 ∨ L = 4) (hr : r < rowsN L) (hc : c < 58) :
    Calls Tryz.prog 49 #[.int .i64 L, .int .i64 r, .int .i64 c] w fun e w' => e = .returned (.tuple #[.agg #[.int .i64 (cellF L r c).1, .int .i64 (cellF L r c).2], .agg #[.int .i64 0, .int .i64 0]]) ∧ Below w.heap.size w w' := by
  have HC := Lib.hid (fun wz => cell_any L r c wz hL hr hc)
  obtain ⟨z, hz⟩ : ∃ z, z = cellF L r c := ⟨_, rfl⟩
  have HC2 := HC.out
  rw [← hz] at HC2 ⊢
  have HC := Lib.hid HC2
  clear HC2 hz
  obtain ⟨z1, z2⟩ := z
  dsimp only at HC ⊢
  have hc2 : (c : Int) < 58 := by omega
  rcases hL with rfl | rfl
  · replace hr : r < 85 := hr
    have hr2 : (r : Int) < 85 := by omega
    go_enter Tryz.func49, Tryz.ntmps49
    go_wp2_with (first | (go_at_call 78; refine (prows2 _).mono ?_; rintro e w' ⟨rfl, rfl⟩) | (go_at_call 76; refine (pvalid2 _).mono ?_; rintro e w' ⟨rfl, rfl⟩))
    refine (HC.out _).mono ?_
    rintro e w1 ⟨rfl, hb⟩
    have R1 := ((Blk.new w #[.int .i64 0, .int .i64 0] 84).alloc (.cells #[.int .i64 0, .int .i64 0] 29)).keep hb (by simp <;> omega)
    have F1 := (Blk.newAt (w := w.alloc (.cells #[.int .i64 0, .int .i64 0] 84)) #[.int .i64 0, .int .i64 0] 29 (show w.heap.size + 1 = _ by simp)).keep hb (by simp)
    obtain ⟨r0, r1, rf, rlt⟩ := R1.d2
    obtain ⟨f0, f1, ff, flt⟩ := F1.d2
    have hb := (show Below w.heap.size w (World.alloc (World.alloc w (.cells #[.int .i64 0, .int .i64 0] 84)) (.cells #[.int .i64 0, .int .i64 0] 29)) from (by repeat (first | (with_reducible exact Below.refl _ _) | (with_reducible assumption) | ((with_reducible refine Below.setCell ?_ ?_ _); rotate_left; (focus (first | omega | (simp; done) | (simp; omega)))) | (with_reducible refine Below.drew ?_) | (with_reducible refine below_drewN ?_ _) | ((with_reducible refine Below.alloc ?_ ?_ _); rotate_left; (focus (first | omega | (simp; done) | (simp; omega))))))).trans (hb.mono (by simp <;> omega))
    dsimp only
    go_wp2_with fail
    exact bodyPost_ret (v := .tuple #[.agg #[.int .i64 z1, .int .i64 z2], .agg #[.int .i64 0, .int .i64 0]]) (by simp [results, Tryz.results49, go_sem, r0, r1, rf, rlt, f0, f1, ff, flt]) rfl ⟨rfl, (by repeat (first | (with_reducible exact Below.refl _ _) | (with_reducible assumption) | ((with_reducible refine Below.setCell ?_ ?_ _); rotate_left; (focus (first | omega | (simp; done) | (simp; omega)))) | (with_reducible refine Below.drew ?_) | (with_reducible refine below_drewN ?_ _) | ((with_reducible refine Below.alloc ?_ ?_ _); rotate_left; (focus (first | omega | (simp; done) | (simp; omega))))))⟩
  · replace hr : r < 53 := hr
    have hr2 : (r : Int) < 53 := by omega
    go_enter Tryz.func49, Tryz.ntmps49
    go_wp2_with (first | (go_at_call 78; refine (prows4 _).mono ?_; rintro e w' ⟨rfl, rfl⟩) | (go_at_call 76; refine (pvalid4 _).mono ?_; rintro e w' ⟨rfl, rfl⟩))
    refine (HC.out _).mono ?_
    rintro e w1 ⟨rfl, hb⟩
    have R1 := ((Blk.new w #[.int .i64 0, .int .i64 0] 84).alloc (.cells #[.int .i64 0, .int .i64 0] 29)).keep hb (by simp <;> omega)
    have F1 := (Blk.newAt (w := w.alloc (.cells #[.int .i64 0, .int .i64 0] 84)) #[.int .i64 0, .int .i64 0] 29 (show w.heap.size + 1 = _ by simp)).keep hb (by simp)
    obtain ⟨r0, r1, rf, rlt⟩ := R1.d2
    obtain ⟨f0, f1, ff, flt⟩ := F1.d2
    have hb := (show Below w.heap.size w (World.alloc (World.alloc w (.cells #[.int .i64 0, .int .i64 0] 84)) (.cells #[.int .i64 0, .int .i64 0] 29)) from (by repeat (first | (with_reducible exact Below.refl _ _) | (with_reducible assumption) | ((with_reducible refine Below.setCell ?_ ?_ _); rotate_left; (focus (first | omega | (simp; done) | (simp; omega)))) | (with_reducible refine Below.drew ?_) | (with_reducible refine below_drewN ?_ _) | ((with_reducible refine Below.alloc ?_ ?_ _); rotate_left; (focus (first | omega | (simp; done) | (simp; omega))))))).trans (hb.mono (by simp <;> omega))
    dsimp only
    go_wp2_with fail
    exact bodyPost_ret (v := .tuple #[.agg #[.int .i64 z1, .int .i64 z2], .agg #[.int .i64 0, .int .i64 0]]) (by simp [results, Tryz.results49, go_sem, r0, r1, rf, rlt, f0, f1, ff, flt]) rfl ⟨rfl, (by repeat (first | (with_reducible exact Below.refl _ _) | (with_reducible assumption) | ((with_reducible refine Below.setCell ?_ ?_ _); rotate_left; (focus (first | omega | (simp; done) | (simp; omega)))) | (with_reducible refine Below.drew ?_) | (with_reducible refine below_drewN ?_ _) | ((with_reducible refine Below.alloc ?_ ?_ _); rotate_left; (focus (first | omega | (simp; done) | (simp; omega))))))⟩

structure OpEnv (w : World) (iv fv : Array Value) (wx : World) : Prop where
  below : Below w.heap.size w wx
  img : Blk wx w.heap.size iv 24
  frame : Blk wx (w.heap.size + 1) fv 27
  res : Blk wx (w.heap.size + 1 + 1) #[.int .i64 0, .int .i64 0, .slice none 0 0, .int .i64 0, .int .i64 0, .int .i64 0, .slice none 0 0, .slice none 0 0] 80
  f : Blk wx (w.heap.size + 1 + 1 + 1) #[.int .i64 0, .int .i64 0] 29
theorem OpEnv.keep {w wx w1 : World} {iv fv : Array Value} (h : OpEnv w iv fv wx) (hb : Below wx.heap.size wx w1) : OpEnv w iv fv w1 :=
  ⟨binto h.below hb, h.img.keep hb h.img.lt, h.frame.keep hb h.frame.lt, h.res.keep hb h.res.lt, h.f.keep hb h.f.lt⟩

def OpenRet (j : Img) (t s R : Int) (tv lv : Value) (w : World) (e : Ending) (w' : World) : Prop :=
  ∃ g, e = .returned (.tuple #[.agg #[.int .i64 j.1, .int .i64 j.2.1, .slice (some ⟨g, 0, none⟩) j.2.2.length j.2.2.length, .int .i64 t, .int .i64 s, .int .i64 R, tv, lv], .agg #[.int .i64 0, .int .i64 0]]) ∧ w.heap.size ≤ g ∧ LBlk w' g (j.2.2.map (Value.int .u8)) 5 ∧ Below w.heap.size w w'

set_option maxRecDepth 100000 in
set_option maxHeartbeats 4000000 in
theorem open_ok (W H : Nat) (a : Option Addr) (np cp : Nat) (px : List Int) (t : Nat) (s R : Int) (tv lv : Value) (l o : List Int) (w : World) (h : ImgOk w W H (.slice a np cp) px) (ht8 : t < 8) (ht : Reads (Value.int .i64) w tv l) (hl : Reads (Value.int .i64) w lv o)
    (hs : 3 ≤ s ∧ s ≤ 6) (hR : R = 53 ∨ R = 85) (hW : (l.length : Int) = (turnI (W, H, px) (invF t).toNat).1) (hlen : (o.length : Int) = R * s) (hok : listOk l = true) (hoo : listOk o = true) :
    Calls Tryz.prog 48 #[.agg #[.int .i64 W, .int .i64 H, .slice a np cp], .agg #[.int .i64 t, .int .i64 s, .int .i64 R, tv, lv]] w (OpenRet (turnI (W, H, px) (invF t).toNat) t s R tv lv w) := by
  have hnp : np = px.length := by obtain ⟨_, _, e, _⟩ := h.rd; injection e
  have hV := validate_any W H a np cp
  rw [imageFaultF_ok2 h.w1 h.w2 h.h1 h.h2 (by rw [hnp]; exact h.len)] at hV
  have HV := Lib.hid hV
  have hrb : rowsB R = true := by rcases hR with rfl | rfl <;> rfl
  have hsb : inB s 3 6 = true := by simp only [inB, Bool.and_eq_true, decide_eq_true_eq]; omega
  have hSC := validScale_any s
  rw [hsb] at hSC
  have HSC := Lib.hid hSC
  have hRW := validRows_any R
  rw [hrb] at hRW
  have HRW := Lib.hid hRW
  have HIN := Lib.hid (fun wz => inverse_yes t wz ⟨by omega, by omega⟩)
  obtain ⟨q, hq⟩ : ∃ q : Nat, (q : Int) = invF t := ⟨(invF t).toNat, by have := inv_rng (t := (t : Int)) ⟨by omega, by omega⟩; omega⟩
  have hq8 : q < 8 := by have := inv_rng (t := (t : Int)) ⟨by omega, by omega⟩; omega
  rw [← hq] at HIN hW ⊢
  rw [Int.toNat_natCast] at hW ⊢
  obtain ⟨j, hj⟩ : ∃ j, j = turnI (W, H, px) q := ⟨_, rfl⟩
  have HTN := Lib.hid (fun wz hI => turn_any W H a np cp px q wz hI hq8)
  rw [← hj] at HTN hW ⊢
  have hVL := Lib.hid (fun wz hz => validList_any tv l wz hz)
  have hVO := Lib.hid (fun wz hz => validList_any lv o wz hz)
  rw [hok] at hVL
  rw [hoo] at hVO
  have HI := Lib.hid h
  have HT := Lib.hid ht
  have HL := Lib.hid hl
  obtain ⟨ta, tc, rfl, t1, t2, -⟩ := id ht
  obtain ⟨la, lc, rfl, l1, l2, -⟩ := id hl
  have hlB : ((l.length : Int) != (j.1 : Int)) = false := by simpa using hW
  have hwr : IntKind.i64.wrap (R * s) = R * s := IntWalk.i64_in _ (by have := sR_bound (s := s) (R := R) ⟨by omega, by omega⟩ ⟨by omega, by omega⟩; omega)
  have hoB : ((o.length : Int) != R * s) = false := by simpa using hlen
  clear hV hSC hRW hrb hsb h ht hl hs hR hW hlen hok hoo hq hj hnp
  go_enter Tryz.func48, Tryz.ntmps48
  go_wp2_with fail
  generalize hW0 : World.alloc (World.alloc (World.alloc (World.alloc w _) _) _) _ = W0
  have E0 : OpEnv w #[.int .i64 W, .int .i64 H, .slice a np cp] #[.int .i64 t, .int .i64 s, .int .i64 R, .slice ta l.length tc, .slice la o.length lc] W0 := by
    rw [← hW0]
    exact ⟨(by repeat (first | (with_reducible exact Below.refl _ _) | (with_reducible assumption) | ((with_reducible refine Below.setCell ?_ ?_ _); rotate_left; (focus (first | omega | (simp; done) | (simp; omega)))) | (with_reducible refine Below.drew ?_) | (with_reducible refine below_drewN ?_ _) | ((with_reducible refine Below.alloc ?_ ?_ _); rotate_left; (focus (first | omega | (simp; done) | (simp; omega)))))), (((Blk.new _ _ _).alloc _).alloc _).alloc _, ((Blk.newAt _ _ (by simp)).alloc _).alloc _, (Blk.newAt _ _ (by simp)).alloc _, Blk.newAt _ _ (by simp)⟩
  clear hW0
  obtain ⟨k0, k1, k2, kf, klt⟩ := E0.img.d3
  go_wp2_with fail
  refine (HV.out W0).mono ?_
  rintro e w1 ⟨rfl, hb1⟩
  have E1 := E0.keep hb1
  clear k0 k1 k2 kf klt E0 hb1 HV
  obtain ⟨k0, k1, k2, k3, k4, kf, klt⟩ := E1.frame.d5
  have klt1 : w.heap.size + 1 < w1.heap.size + 1 := by omega
  have klt2 : w.heap.size + 1 < w1.heap.size + 1 + 1 := by omega
  go_wp2_with (go_at_call 16; refine (faultL_exact _ _ _).mono ?_; rintro e w' ⟨rfl, rfl⟩)
  generalize hW2 : World.alloc (World.alloc (World.alloc w1 _) _) _ = W2
  have E2 : OpEnv w #[.int .i64 W, .int .i64 H, .slice a np cp] #[.int .i64 t, .int .i64 s, .int .i64 R, .slice ta l.length tc, .slice la o.length lc] W2 := by
    rw [← hW2]; exact E1.keep (by repeat (first | (with_reducible exact Below.refl _ _) | (with_reducible assumption) | ((with_reducible refine Below.setCell ?_ ?_ _); rotate_left; (focus (first | omega | (simp; done) | (simp; omega)))) | (with_reducible refine Below.drew ?_) | (with_reducible refine below_drewN ?_ _) | ((with_reducible refine Below.alloc ?_ ?_ _); rotate_left; (focus (first | omega | (simp; done) | (simp; omega))))))
  clear hW2 E1 k0 k1 k2 k3 k4 kf klt klt1 klt2
  refine (HIN.out W2).mono ?_
  rintro e w3 ⟨rfl, hb3⟩
  have E3 := E2.keep hb3
  clear E2 hb3 HIN
  obtain ⟨k0, k1, k2, k3, k4, kf, klt⟩ := E3.frame.d5
  have klt1 : w.heap.size + 1 < w3.heap.size + 1 := by omega
  dsimp only
  go_wp2_with (go_at_call 43; refine (HSC.out _).mono ?_; rintro e w' ⟨rfl, rfl⟩)
  generalize hW4 : World.alloc w3 _ = W4
  have E4 : OpEnv w #[.int .i64 W, .int .i64 H, .slice a np cp] #[.int .i64 t, .int .i64 s, .int .i64 R, .slice ta l.length tc, .slice la o.length lc] W4 := by
    rw [← hW4]; exact E3.keep (by repeat (first | (with_reducible exact Below.refl _ _) | (with_reducible assumption) | ((with_reducible refine Below.setCell ?_ ?_ _); rotate_left; (focus (first | omega | (simp; done) | (simp; omega)))) | (with_reducible refine Below.drew ?_) | (with_reducible refine below_drewN ?_ _) | ((with_reducible refine Below.alloc ?_ ?_ _); rotate_left; (focus (first | omega | (simp; done) | (simp; omega))))))
  clear hW4 E3 k0 k1 k2 k3 k4 kf klt klt1
  refine (HRW.out W4).mono ?_
  rintro e w5 ⟨rfl, hb5⟩
  have E5 := E4.keep hb5
  clear E4 hb5 HRW
  obtain ⟨k0, k1, k2, kf, klt⟩ := E5.img.d3
  dsimp only
  go_wp2_with fail
  refine (HTN.out w5 (HI.out.below E5.below)).mono ?_
  rintro e w6 ⟨g, rfl, hg, hL, hb6⟩
  have E6 := E5.keep hb6
  have hfl := E5.f.lt
  clear E5 hb6 HTN k0 k1 k2 kf klt
  obtain ⟨k0, k1, k2, k3, k4, kf, klt⟩ := E6.frame.d5
  have klt1 : w.heap.size + 1 < w6.heap.size + 1 := by omega
  have klt2 : w.heap.size + 1 < w6.heap.size + 1 + 1 := by omega
  dsimp only
  go_wp2_with fail
  generalize hW7 : World.alloc (World.alloc w6 _) _ = W7
  have E7 : OpEnv w #[.int .i64 W, .int .i64 H, .slice a np cp] #[.int .i64 t, .int .i64 s, .int .i64 R, .slice ta l.length tc, .slice la o.length lc] W7 := by
    rw [← hW7]; exact E6.keep (by repeat (first | (with_reducible exact Below.refl _ _) | (with_reducible assumption) | ((with_reducible refine Below.setCell ?_ ?_ _); rotate_left; (focus (first | omega | (simp; done) | (simp; omega)))) | (with_reducible refine Below.drew ?_) | (with_reducible refine below_drewN ?_ _) | ((with_reducible refine Below.alloc ?_ ?_ _); rotate_left; (focus (first | omega | (simp; done) | (simp; omega))))))
  have U7 : Blk W7 w6.heap.size #[.int .i64 j.1, .int .i64 j.2.1, .slice (some ⟨g, 0, none⟩) j.2.2.length j.2.2.length] 24 := by rw [← hW7]; exact (Blk.new _ _ _).alloc _
  have hL7 : LBlk W7 g (j.2.2.map (Value.int .u8)) 5 := by rw [← hW7]; exact (hL.alloc _).alloc _
  have hgl := hL.lt
  clear hW7 E6 hL k0 k1 k2 k3 k4 kf klt klt1 klt2
  refine (hVL.out W7 (HT.out.below E7.below)).mono ?_
  rintro e w8 ⟨rfl, hb8⟩
  have E8 := E7.keep hb8
  have U8 := U7.keep hb8 U7.lt
  have hL8 := hL7.keep hb8 hL7.lt
  clear E7 U7 hL7 hb8 hVL
  obtain ⟨k0, k1, k2, k3, k4, kf, klt⟩ := E8.frame.d5
  dsimp only
  go_wp2_with fail
  refine (hVO.out w8 (HL.out.below E8.below)).mono ?_
  rintro e w9 ⟨rfl, hb9⟩
  have E9 := E8.keep hb9
  have U9 := U8.keep hb9 U8.lt
  have hL9 := hL8.keep hb9 hL8.lt
  clear E8 U8 hL8 hb9 hVO k0 k1 k2 k3 k4 kf klt
  obtain ⟨k0, k1, k2, k3, k4, kf, klt⟩ := E9.frame.d5
  obtain ⟨u0, u1, u2, uf, ult⟩ := U9.d3
  obtain ⟨r0, r1, r2, r3, r4, r5, r6, r7, rf, rlt⟩ := E9.res.d8
  obtain ⟨f0, f1, ff, flt⟩ := E9.f.d2
  have hB := E9.below
  dsimp only
  go_wp2_with fail
  refine bodyPost_ret (v := .tuple #[.agg #[.int .i64 j.1, .int .i64 j.2.1, .slice (some ⟨g, 0, none⟩) j.2.2.length j.2.2.length, .int .i64 t, .int .i64 s, .int .i64 R, .slice ta l.length tc, .slice la o.length lc], .agg #[.int .i64 0, .int .i64 0]]) (by simp [results, Tryz.results48, go_sem, r0, r1, r2, r3, r4, r5, r6, r7, rf, rlt, f0, f1, ff, flt]) rfl ⟨g, rfl, by omega, ?_, (by repeat (first | (with_reducible exact Below.refl _ _) | (with_reducible assumption) | ((with_reducible refine Below.setCell ?_ ?_ _); rotate_left; (focus (first | omega | (simp; done) | (simp; omega)))) | (with_reducible refine Below.drew ?_) | (with_reducible refine below_drewN ?_ _) | ((with_reducible refine Below.alloc ?_ ?_ _); rotate_left; (focus (first | omega | (simp; done) | (simp; omega))))))⟩
  repeat (refine LBlk.set_other ?_ (by simp; omega) _)
  exact hL9

end Go.Proofs.YtnfgedbcfclnmaaGreat
