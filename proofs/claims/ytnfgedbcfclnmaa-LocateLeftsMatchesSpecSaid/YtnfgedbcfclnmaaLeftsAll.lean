/- LocateLeftsMatchesSpec holds: for every image, list of tops, scale and number of rows the law answers true, and the arguments read behind the call as before. No condition. -/
import Derived.Test.YtnfgedbcfclnmaaLeftF
import Derived.Test.YtnfgedbcfclnmaaKit
import Derived.Deep.RegionHeld3
import Derived.Test.YtnfgedbcfclnmaaLaw1
import Derived.Test.YtnfgedbcfclnmaaLeftsW
import Derived.Test.YtnfgedbcfclnmaaFilled
import Derived.Test.YtnfgedbcfclnmaaTurnF
import Derived.ProofKit
import Derived.Lib.SmallJoins
import Derived.ChangeOld
import Derived.Below
set_option linter.unusedVariables false
set_option linter.unusedSimpArgs false

namespace Go.Proofs.Ytnfgedbcfclnmaa
open Go.RowKit

structure LfEnv (w : World) (W H : Int) (pv : Value) (wx : World) : Prop where
  below : Below w.heap.size w wx
  img : Blk wx w.heap.size #[.int .i64 W, .int .i64 H, pv] 24
  res : Blk wx (w.heap.size + 1) #[.int .i64 0, .int .i64 0] 27

set_option maxRecDepth 100000 in
set_option maxHeartbeats 2000000 in
theorem leftsFault_any (W H : Int) (a : Option Addr) (np cp : Nat) (tv : Value) (l : List Int) (s R : Int) (w : World) (ht : Reads (Value.int .i64) w tv l) :
    Calls Try.prog 14 #[.agg #[.int .i64 W, .int .i64 H, .slice a np cp], tv, .int .i64 s, .int .i64 R] w fun e w' => e = .returned (.agg #[.int .i64 (leftsFaultF W H np l s R).1, .int .i64 (leftsFaultF W H np l s R).2]) ∧ Below w.heap.size w w' := by
  obtain ⟨ta, tc, rfl, t1, t2, t3⟩ := id ht
  have hlm : l.length ≤ 9223372036854775807 := Nat.le_trans t1 (Nat.le_trans t2 (by decide))
  have HT := Lib.hid ht
  clear t3 ht
  obtain ⟨f, hf⟩ : ∃ f, f = imageFaultF W H np := ⟨_, rfl⟩
  have hI := imageFault_any W H a np cp
  rw [← hf] at hI
  have HI := Lib.hid hI
  have hres : leftsFaultF W H np l s R = if f.1 ≠ 0 then f else if (l.length : Int) ≠ W then (9, -2) else if listOk l = false then (4, -2) else if inB s 3 6 = false then (4, -3) else if rowsB R = false then (4, -4) else (0, 0) := by rw [hf]; rfl
  obtain ⟨z, hz⟩ : ∃ z, z = leftsFaultF W H np l s R := ⟨_, rfl⟩
  rw [← hz] at hres ⊢
  clear hz hI hf
  go_enter Try.func14, Try.ntmps14
  go_wp2_with fail
  generalize hW0 : World.alloc (World.alloc w _) _ = W0
  have s0 : W0.heap.size = w.heap.size + 1 + 1 := by rw [← hW0]; simp
  have K0 : Blk W0 w.heap.size #[.int .i64 W, .int .i64 H, .slice a np cp] 24 := by rw [← hW0]; exact (Blk.new _ _ _).alloc _
  have R0 : Blk W0 (w.heap.size + 1) #[.int .i64 0, .int .i64 0] 27 := by rw [← hW0]; exact Blk.newAt _ _ (by simp)
  have hB0 : Below w.heap.size w W0 := by rw [← hW0]; exact (by repeat (first | (with_reducible exact Below.refl _ _) | (with_reducible assumption) | ((with_reducible refine Below.setCell ?_ ?_ _); rotate_left; (focus (first | omega | (simp; done) | (simp; omega)))) | (with_reducible refine Below.drew ?_) | (with_reducible refine below_drewN ?_ _) | ((with_reducible refine Below.alloc ?_ ?_ _); rotate_left; (focus (first | omega | (simp; done) | (simp; omega))))))
  clear hW0
  refine (HI.out W0).mono ?_
  rintro e w1 ⟨rfl, hb1⟩
  have K1 := K0.keep hb1 K0.lt
  have R1 := R0.keep hb1 R0.lt
  have hB1 := binto hB0 hb1
  obtain ⟨k0, k1, k2, kf, klt⟩ := K1.d3
  obtain ⟨r0, r1, rf, rlt⟩ := R1.d2
  have HT1 := Lib.hid (HT.out.below hB1)
  clear K0 R0 hB0 hb1 HI s0 HT
  obtain ⟨f1, f2⟩ := f
  dsimp only at hres ⊢
  by_cases hf0 : f1 = 0
  · subst hf0
    simp only [ne_eq, not_true_eq_false, if_false] at hres
    by_cases hl : (l.length : Int) = W
    · have hlB : ((l.length : Int) != W) = false := by simpa using hl
      rw [if_neg (by simpa using hl)] at hres
      have hP := Lib.hid (fun wz h => positions_any (.slice ta l.length tc) l wz h)
      clear hl
      cases hok : listOk l with
      | false =>
        rw [hok] at hres hP
        rw [if_pos rfl] at hres
        subst hres
        clear hok
        go_wp2_with fail
        refine (hP.out _ (HT1.out.below (below_alloc _ _))).mono ?_
        rintro e w2 ⟨rfl, rfl⟩
        go_wp2_with (go_at_call 12; refine (at_exact _ _ _).mono ?_; rintro e w' ⟨rfl, rfl⟩)
        exact bodyPost_ret (v := .agg #[.int .i64 4, .int .i64 (-2)]) (by simp [results, Try.results14, go_sem, r0, r1, rf, rlt, klt]) rfl ⟨rfl, (by repeat (first | (with_reducible exact Below.refl _ _) | (with_reducible assumption) | ((with_reducible refine Below.setCell ?_ ?_ _); rotate_left; (focus (first | omega | (simp; done) | (simp; omega)))) | (with_reducible refine Below.drew ?_) | (with_reducible refine below_drewN ?_ _) | ((with_reducible refine Below.alloc ?_ ?_ _); rotate_left; (focus (first | omega | (simp; done) | (simp; omega))))))⟩
      | true =>
        rw [hok] at hres hP
        simp only [Bool.true_eq_false, if_false] at hres
        clear hok
        cases hs : inB s 3 6 with
        | false =>
          rw [hs, if_pos rfl] at hres
          subst hres
          have HS := Lib.hid hs
          clear hs
          go_wp2_with fail
          refine (hP.out _ (HT1.out.below (below_alloc _ _))).mono ?_
          rintro e w2 ⟨rfl, rfl⟩
          go_wp2_with (first | (go_at_call 21; refine (in_is HS.out _).mono ?_; rintro e w' ⟨rfl, rfl⟩) | (go_at_call 12; refine (at_exact _ _ _).mono ?_; rintro e w' ⟨rfl, rfl⟩))
          exact bodyPost_ret (v := .agg #[.int .i64 4, .int .i64 (-3)]) (by simp [results, Try.results14, go_sem, r0, r1, rf, rlt, klt]) rfl ⟨rfl, (by repeat (first | (with_reducible exact Below.refl _ _) | (with_reducible assumption) | ((with_reducible refine Below.setCell ?_ ?_ _); rotate_left; (focus (first | omega | (simp; done) | (simp; omega)))) | (with_reducible refine Below.drew ?_) | (with_reducible refine below_drewN ?_ _) | ((with_reducible refine Below.alloc ?_ ?_ _); rotate_left; (focus (first | omega | (simp; done) | (simp; omega))))))⟩
        | true =>
          rw [hs] at hres
          simp only [Bool.true_eq_false, if_false] at hres
          have HS := Lib.hid hs
          clear hs
          by_cases e85 : R = 85
          · have hrb : rowsB R = true := by subst e85; rfl
            rw [hrb] at hres
            simp only [Bool.true_eq_false, if_false] at hres
            subst hres e85
            clear hrb
            go_wp2_with fail
            refine (hP.out _ (HT1.out.below (below_alloc _ _))).mono ?_
            rintro e w2 ⟨rfl, rfl⟩
            go_wp2_with (first | (go_at_call 21; refine (in_is HS.out _).mono ?_; rintro e w' ⟨rfl, rfl⟩) | (go_at_call 12; refine (at_exact _ _ _).mono ?_; rintro e w' ⟨rfl, rfl⟩))
            exact bodyPost_ret (v := .agg #[.int .i64 0, .int .i64 0]) (by simp [results, Try.results14, go_sem, r0, r1, rf, rlt, klt]) rfl ⟨rfl, (by repeat (first | (with_reducible exact Below.refl _ _) | (with_reducible assumption) | ((with_reducible refine Below.setCell ?_ ?_ _); rotate_left; (focus (first | omega | (simp; done) | (simp; omega)))) | (with_reducible refine Below.drew ?_) | (with_reducible refine below_drewN ?_ _) | ((with_reducible refine Below.alloc ?_ ?_ _); rotate_left; (focus (first | omega | (simp; done) | (simp; omega))))))⟩
          · by_cases e53 : R = 53
            · have hrb : rowsB R = true := by subst e53; rfl
              rw [hrb] at hres
              simp only [Bool.true_eq_false, if_false] at hres
              subst hres e53
              clear hrb e85
              go_wp2_with fail
              refine (hP.out _ (HT1.out.below (below_alloc _ _))).mono ?_
              rintro e w2 ⟨rfl, rfl⟩
              go_wp2_with (first | (go_at_call 21; refine (in_is HS.out _).mono ?_; rintro e w' ⟨rfl, rfl⟩) | (go_at_call 12; refine (at_exact _ _ _).mono ?_; rintro e w' ⟨rfl, rfl⟩))
              exact bodyPost_ret (v := .agg #[.int .i64 0, .int .i64 0]) (by simp [results, Try.results14, go_sem, r0, r1, rf, rlt, klt]) rfl ⟨rfl, (by repeat (first | (with_reducible exact Below.refl _ _) | (with_reducible assumption) | ((with_reducible refine Below.setCell ?_ ?_ _); rotate_left; (focus (first | omega | (simp; done) | (simp; omega)))) | (with_reducible refine Below.drew ?_) | (with_reducible refine below_drewN ?_ _) | ((with_reducible refine Below.alloc ?_ ?_ _); rotate_left; (focus (first | omega | (simp; done) | (simp; omega))))))⟩
            · have hrb : rowsB R = false := by simp [rowsB, e85, e53]
              rw [hrb, if_pos rfl] at hres
              subst hres
              have b85 : (R != 85) = true := by simpa using e85
              have b53 : (R != 53) = true := by simpa using e53
              clear hrb e85 e53
              go_wp2_with fail
              refine (hP.out _ (HT1.out.below (below_alloc _ _))).mono ?_
              rintro e w2 ⟨rfl, rfl⟩
              go_wp2_with (first | (go_at_call 21; refine (in_is HS.out _).mono ?_; rintro e w' ⟨rfl, rfl⟩) | (go_at_call 12; refine (at_exact _ _ _).mono ?_; rintro e w' ⟨rfl, rfl⟩))
              exact bodyPost_ret (v := .agg #[.int .i64 4, .int .i64 (-4)]) (by simp [results, Try.results14, go_sem, r0, r1, rf, rlt, klt]) rfl ⟨rfl, (by repeat (first | (with_reducible exact Below.refl _ _) | (with_reducible assumption) | ((with_reducible refine Below.setCell ?_ ?_ _); rotate_left; (focus (first | omega | (simp; done) | (simp; omega)))) | (with_reducible refine Below.drew ?_) | (with_reducible refine below_drewN ?_ _) | ((with_reducible refine Below.alloc ?_ ?_ _); rotate_left; (focus (first | omega | (simp; done) | (simp; omega))))))⟩
    · have hlB : ((l.length : Int) != W) = true := by simpa using hl
      rw [if_pos (by simpa using hl)] at hres
      subst hres
      clear hl
      go_wp2_with (go_at_call 12; refine (at_exact _ _ _).mono ?_; rintro e w' ⟨rfl, rfl⟩)
      exact bodyPost_ret (v := .agg #[.int .i64 9, .int .i64 (-2)]) (by simp [results, Try.results14, go_sem, r0, r1, rf, rlt, klt]) rfl ⟨rfl, (by repeat (first | (with_reducible exact Below.refl _ _) | (with_reducible assumption) | ((with_reducible refine Below.setCell ?_ ?_ _); rotate_left; (focus (first | omega | (simp; done) | (simp; omega)))) | (with_reducible refine Below.drew ?_) | (with_reducible refine below_drewN ?_ _) | ((with_reducible refine Below.alloc ?_ ?_ _); rotate_left; (focus (first | omega | (simp; done) | (simp; omega))))))⟩
  · have hfB : (f1 != 0) = true := by simpa using hf0
    rw [if_pos hf0] at hres
    subst hres
    clear hf0
    go_wp2_with fail
    exact bodyPost_ret (v := .agg #[.int .i64 f1, .int .i64 f2]) (by simp [results, Try.results14, go_sem, r0, r1, rf, rlt, klt]) rfl ⟨rfl, (by repeat (first | (with_reducible exact Below.refl _ _) | (with_reducible assumption) | ((with_reducible refine Below.setCell ?_ ?_ _); rotate_left; (focus (first | omega | (simp; done) | (simp; omega)))) | (with_reducible refine Below.drew ?_) | (with_reducible refine below_drewN ?_ _) | ((with_reducible refine Below.alloc ?_ ?_ _); rotate_left; (focus (first | omega | (simp; done) | (simp; omega))))))⟩

end Go.Proofs.Ytnfgedbcfclnmaa

namespace Go.Proofs.Ytnfgedbcfclnmaa
open Go.RowKit

def skipOne (ops : Array Oper) (i : Nat) (a : Act) : Act := a.put ((ops[i]?).bind (·.dst)) undef
def skipA (ops : Array Oper) : List Nat → Act → Act
  | [], a => a
  | i :: is, a => skipA ops is (skipOne ops i a)
def skipL : List Nat → Array Bool → Array Bool
  | [], l => l
  | i :: is, l => skipL is (l.setIfInBounds i true)
def skipOk (md : Region.Mode) (ops : Array Oper) : List Nat → Array Bool → Act → Bool
  | [], _, _ => true
  | i :: is, l, a => Region.free md ops l i && (Region.ready md ops l).contains i && ((ops[i]?).map fun o => !(Region.wanted o (yielded ops a.tmps))).getD false && skipOk md ops is (l.setIfInBounds i true) (skipOne ops i a)

theorem wpAnyH_skip {P : Program} {md : Region.Mode} {ops : Array Oper} {Q : Exit → Act → World → Prop} {S : World → Prop} (hs : Region.noSelect ops = true) (hQ : ∀ c a w d, Q (.panic c) (a.put d undef) w → Q (.panic c) a w) :
    ∀ (is : List Nat) (fuel : Nat) (listed : Array Bool) (a : Act) (w : World), skipOk md ops is listed a = true → S w → wpAnyH P md ops Q S fuel (skipL is listed) (skipA ops is a) w → wpAnyH P md ops Q S (fuel + is.length) listed a w
  | [], _, _, _, _, _, _, h => h
  | i :: is, fuel, listed, a, w, hok, hS, h => by
    simp only [skipOk, Bool.and_eq_true] at hok
    obtain ⟨⟨⟨h1, h2⟩, h3⟩, h4⟩ := hok
    cases ho : ops[i]? with
    | none => rw [ho] at h3; cases h3
    | some o =>
      rw [ho] at h3
      have h3' : Region.wanted o (yielded ops a.tmps) = false := by simpa using h3
      have hd : skipOne ops i a = a.put o.dst undef := by simp [skipOne, ho]
      have hrec := wpAnyH_skip hs hQ is fuel (listed.setIfInBounds i true) (skipOne ops i a) w h4 hS h
      rw [hd] at hrec
      exact wpAnyH_take ho hs h1 h2 (fun c a w => hQ c a w o.dst) (Or.inr ⟨h3', rfl⟩) hS hrec

end Go.Proofs.Ytnfgedbcfclnmaa

namespace Go.Proofs.Ytnfgedbcfclnmaa
open Go.RowKit

set_option maxRecDepth 100000 in
set_option maxHeartbeats 2000000 in
theorem lefts_img1 (W H : Int) (a : Option Addr) (np cp : Nat) (tv : Value) (l : List Int) (s R : Int) (w : World) (ht : Reads (Value.int .i64) w tv l) (h : imageFaultF W H np = (4, -1)) :
    Calls Try.prog 13 #[.agg #[.int .i64 W, .int .i64 H, .slice a np cp], tv, .int .i64 s, .int .i64 R] w fun e w' => e = .returned (.tuple #[.slice none 0 0, .agg #[.int .i64 4, .int .i64 (-1)]]) ∧ Below w.heap.size w w' := by
  have hV := validate_any W H a np cp
  rw [h] at hV
  have HV := Lib.hid hV
  clear hV
  obtain ⟨ta, tc, rfl, -⟩ := id ht
  clear h ht
  go_enter Try.func13, Try.ntmps13
  go_wp2_with fail
  generalize hW0 : World.alloc (World.alloc w _) _ = W0
  have K0 : Blk W0 w.heap.size #[.int .i64 W, .int .i64 H, .slice a np cp] 24 := by rw [← hW0]; exact (Blk.new _ _ _).alloc _
  have R0 : Blk W0 (w.heap.size + 1) #[.int .i64 0, .int .i64 0] 27 := by rw [← hW0]; exact Blk.newAt _ _ (by simp)
  have hB0 : Below w.heap.size w W0 := by rw [← hW0]; exact (by repeat (first | (with_reducible exact Below.refl _ _) | (with_reducible assumption) | ((with_reducible refine Below.setCell ?_ ?_ _); rotate_left; (focus (first | omega | (simp; done) | (simp; omega)))) | (with_reducible refine Below.drew ?_) | (with_reducible refine below_drewN ?_ _) | ((with_reducible refine Below.alloc ?_ ?_ _); rotate_left; (focus (first | omega | (simp; done) | (simp; omega))))))
  clear hW0
  refine (HV.out W0).mono ?_
  rintro e w1 ⟨rfl, hb1⟩
  have K1 := K0.keep hb1 K0.lt
  have R1 := R0.keep hb1 R0.lt
  have hB1 := binto hB0 hb1
  obtain ⟨k0, k1, k2, kf, klt⟩ := K1.d3
  have rlt := R1.lt
  clear K0 R0 hB0 hb1 HV
  dsimp only
  go_wp2_with fail
  generalize hW2 : World.alloc w1 _ = W2
  have D2 : Blk W2 w1.heap.size #[.int .i64 4, .int .i64 (-1)] 27 := by rw [← hW2]; exact Blk.new _ _ _
  have R2 : Blk W2 (w.heap.size + 1) #[.int .i64 0, .int .i64 0] 27 := by rw [← hW2]; exact R1.alloc _
  have hB2 : Below w.heap.size w W2 := by rw [← hW2]; exact hB1.trans (below_alloc' hB1.size _)
  obtain ⟨r0, r1, rf, rlt⟩ := R2.d2
  obtain ⟨d0, d1, df, dlt⟩ := D2.d2
  have hne1 : ¬ w.heap.size + 1 = w1.heap.size := by omega
  have hne2 : ¬ w1.heap.size = w.heap.size + 1 := by omega
  clear hW2 R1 R2 D2 hB1 K1 k0 k1 k2 kf klt
  go_region
  all_goals go_wp2_with fail
  all_goals exact bodyPost_ret (v := .tuple #[.slice none 0 0, .agg #[.int .i64 4, .int .i64 (-1)]]) (by simp [results, Try.results13, go_sem, r0, r1, rf, rlt]) rfl ⟨rfl, (by repeat (first | (with_reducible exact Below.refl _ _) | (with_reducible assumption) | ((with_reducible refine Below.setCell ?_ ?_ _); rotate_left; (focus (first | omega | (simp; done) | (simp; omega)))) | (with_reducible refine Below.drew ?_) | (with_reducible refine below_drewN ?_ _) | ((with_reducible refine Below.alloc ?_ ?_ _); rotate_left; (focus (first | omega | (simp; done) | (simp; omega))))))⟩

set_option maxRecDepth 100000 in
set_option maxHeartbeats 2000000 in
theorem lefts_img2 (W H : Int) (a : Option Addr) (np cp : Nat) (tv : Value) (l : List Int) (s R : Int) (w : World) (ht : Reads (Value.int .i64) w tv l) (h : imageFaultF W H np = (4, -2)) :
    Calls Try.prog 13 #[.agg #[.int .i64 W, .int .i64 H, .slice a np cp], tv, .int .i64 s, .int .i64 R] w fun e w' => e = .returned (.tuple #[.slice none 0 0, .agg #[.int .i64 4, .int .i64 (-2)]]) ∧ Below w.heap.size w w' := by
  have hV := validate_any W H a np cp
  rw [h] at hV
  have HV := Lib.hid hV
  clear hV
  obtain ⟨ta, tc, rfl, -⟩ := id ht
  clear h ht
  go_enter Try.func13, Try.ntmps13
  go_wp2_with fail
  generalize hW0 : World.alloc (World.alloc w _) _ = W0
  have K0 : Blk W0 w.heap.size #[.int .i64 W, .int .i64 H, .slice a np cp] 24 := by rw [← hW0]; exact (Blk.new _ _ _).alloc _
  have R0 : Blk W0 (w.heap.size + 1) #[.int .i64 0, .int .i64 0] 27 := by rw [← hW0]; exact Blk.newAt _ _ (by simp)
  have hB0 : Below w.heap.size w W0 := by rw [← hW0]; exact (by repeat (first | (with_reducible exact Below.refl _ _) | (with_reducible assumption) | ((with_reducible refine Below.setCell ?_ ?_ _); rotate_left; (focus (first | omega | (simp; done) | (simp; omega)))) | (with_reducible refine Below.drew ?_) | (with_reducible refine below_drewN ?_ _) | ((with_reducible refine Below.alloc ?_ ?_ _); rotate_left; (focus (first | omega | (simp; done) | (simp; omega))))))
  clear hW0
  refine (HV.out W0).mono ?_
  rintro e w1 ⟨rfl, hb1⟩
  have K1 := K0.keep hb1 K0.lt
  have R1 := R0.keep hb1 R0.lt
  have hB1 := binto hB0 hb1
  obtain ⟨k0, k1, k2, kf, klt⟩ := K1.d3
  have rlt := R1.lt
  clear K0 R0 hB0 hb1 HV
  dsimp only
  go_wp2_with fail
  generalize hW2 : World.alloc w1 _ = W2
  have D2 : Blk W2 w1.heap.size #[.int .i64 4, .int .i64 (-2)] 27 := by rw [← hW2]; exact Blk.new _ _ _
  have R2 : Blk W2 (w.heap.size + 1) #[.int .i64 0, .int .i64 0] 27 := by rw [← hW2]; exact R1.alloc _
  have hB2 : Below w.heap.size w W2 := by rw [← hW2]; exact hB1.trans (below_alloc' hB1.size _)
  obtain ⟨r0, r1, rf, rlt⟩ := R2.d2
  obtain ⟨d0, d1, df, dlt⟩ := D2.d2
  have hne1 : ¬ w.heap.size + 1 = w1.heap.size := by omega
  have hne2 : ¬ w1.heap.size = w.heap.size + 1 := by omega
  clear hW2 R1 R2 D2 hB1 K1 k0 k1 k2 kf klt
  go_region
  all_goals go_wp2_with fail
  all_goals exact bodyPost_ret (v := .tuple #[.slice none 0 0, .agg #[.int .i64 4, .int .i64 (-2)]]) (by simp [results, Try.results13, go_sem, r0, r1, rf, rlt]) rfl ⟨rfl, (by repeat (first | (with_reducible exact Below.refl _ _) | (with_reducible assumption) | ((with_reducible refine Below.setCell ?_ ?_ _); rotate_left; (focus (first | omega | (simp; done) | (simp; omega)))) | (with_reducible refine Below.drew ?_) | (with_reducible refine below_drewN ?_ _) | ((with_reducible refine Below.alloc ?_ ?_ _); rotate_left; (focus (first | omega | (simp; done) | (simp; omega))))))⟩

set_option maxRecDepth 100000 in
set_option maxHeartbeats 2000000 in
theorem lefts_img3 (W H : Int) (a : Option Addr) (np cp : Nat) (tv : Value) (l : List Int) (s R : Int) (w : World) (ht : Reads (Value.int .i64) w tv l) (h : imageFaultF W H np = (9, -3)) :
    Calls Try.prog 13 #[.agg #[.int .i64 W, .int .i64 H, .slice a np cp], tv, .int .i64 s, .int .i64 R] w fun e w' => e = .returned (.tuple #[.slice none 0 0, .agg #[.int .i64 9, .int .i64 (-3)]]) ∧ Below w.heap.size w w' := by
  have hV := validate_any W H a np cp
  rw [h] at hV
  have HV := Lib.hid hV
  clear hV
  obtain ⟨ta, tc, rfl, -⟩ := id ht
  clear h ht
  go_enter Try.func13, Try.ntmps13
  go_wp2_with fail
  generalize hW0 : World.alloc (World.alloc w _) _ = W0
  have K0 : Blk W0 w.heap.size #[.int .i64 W, .int .i64 H, .slice a np cp] 24 := by rw [← hW0]; exact (Blk.new _ _ _).alloc _
  have R0 : Blk W0 (w.heap.size + 1) #[.int .i64 0, .int .i64 0] 27 := by rw [← hW0]; exact Blk.newAt _ _ (by simp)
  have hB0 : Below w.heap.size w W0 := by rw [← hW0]; exact (by repeat (first | (with_reducible exact Below.refl _ _) | (with_reducible assumption) | ((with_reducible refine Below.setCell ?_ ?_ _); rotate_left; (focus (first | omega | (simp; done) | (simp; omega)))) | (with_reducible refine Below.drew ?_) | (with_reducible refine below_drewN ?_ _) | ((with_reducible refine Below.alloc ?_ ?_ _); rotate_left; (focus (first | omega | (simp; done) | (simp; omega))))))
  clear hW0
  refine (HV.out W0).mono ?_
  rintro e w1 ⟨rfl, hb1⟩
  have K1 := K0.keep hb1 K0.lt
  have R1 := R0.keep hb1 R0.lt
  have hB1 := binto hB0 hb1
  obtain ⟨k0, k1, k2, kf, klt⟩ := K1.d3
  have rlt := R1.lt
  clear K0 R0 hB0 hb1 HV
  dsimp only
  go_wp2_with fail
  generalize hW2 : World.alloc w1 _ = W2
  have D2 : Blk W2 w1.heap.size #[.int .i64 9, .int .i64 (-3)] 27 := by rw [← hW2]; exact Blk.new _ _ _
  have R2 : Blk W2 (w.heap.size + 1) #[.int .i64 0, .int .i64 0] 27 := by rw [← hW2]; exact R1.alloc _
  have hB2 : Below w.heap.size w W2 := by rw [← hW2]; exact hB1.trans (below_alloc' hB1.size _)
  obtain ⟨r0, r1, rf, rlt⟩ := R2.d2
  obtain ⟨d0, d1, df, dlt⟩ := D2.d2
  have hne1 : ¬ w.heap.size + 1 = w1.heap.size := by omega
  have hne2 : ¬ w1.heap.size = w.heap.size + 1 := by omega
  clear hW2 R1 R2 D2 hB1 K1 k0 k1 k2 kf klt
  go_region
  all_goals go_wp2_with fail
  all_goals exact bodyPost_ret (v := .tuple #[.slice none 0 0, .agg #[.int .i64 9, .int .i64 (-3)]]) (by simp [results, Try.results13, go_sem, r0, r1, rf, rlt]) rfl ⟨rfl, (by repeat (first | (with_reducible exact Below.refl _ _) | (with_reducible assumption) | ((with_reducible refine Below.setCell ?_ ?_ _); rotate_left; (focus (first | omega | (simp; done) | (simp; omega)))) | (with_reducible refine Below.drew ?_) | (with_reducible refine below_drewN ?_ _) | ((with_reducible refine Below.alloc ?_ ?_ _); rotate_left; (focus (first | omega | (simp; done) | (simp; omega))))))⟩

set_option maxRecDepth 100000 in
set_option maxHeartbeats 2000000 in
theorem lefts_len (W H : Int) (a : Option Addr) (np cp : Nat) (tv : Value) (l : List Int) (s R : Int) (w : World) (ht : Reads (Value.int .i64) w tv l) (h : imageFaultF W H np = (0, 0)) (hl : (l.length : Int) ≠ W) :
    Calls Try.prog 13 #[.agg #[.int .i64 W, .int .i64 H, .slice a np cp], tv, .int .i64 s, .int .i64 R] w fun e w' => e = .returned (.tuple #[.slice none 0 0, .agg #[.int .i64 9, .int .i64 (-2)]]) ∧ Below w.heap.size w w' := by
  have hV := validate_any W H a np cp
  rw [h] at hV
  have HV := Lib.hid hV
  clear hV
  obtain ⟨ta, tc, rfl, t1, t2, -⟩ := id ht
  have hlB : ((l.length : Int) != W) = true := by simpa using hl
  clear h ht hl
  go_enter Try.func13, Try.ntmps13
  go_wp2_with fail
  generalize hW0 : World.alloc (World.alloc w _) _ = W0
  have K0 : Blk W0 w.heap.size #[.int .i64 W, .int .i64 H, .slice a np cp] 24 := by rw [← hW0]; exact (Blk.new _ _ _).alloc _
  have R0 : Blk W0 (w.heap.size + 1) #[.int .i64 0, .int .i64 0] 27 := by rw [← hW0]; exact Blk.newAt _ _ (by simp)
  have hB0 : Below w.heap.size w W0 := by rw [← hW0]; exact (by repeat (first | (with_reducible exact Below.refl _ _) | (with_reducible assumption) | ((with_reducible refine Below.setCell ?_ ?_ _); rotate_left; (focus (first | omega | (simp; done) | (simp; omega)))) | (with_reducible refine Below.drew ?_) | (with_reducible refine below_drewN ?_ _) | ((with_reducible refine Below.alloc ?_ ?_ _); rotate_left; (focus (first | omega | (simp; done) | (simp; omega))))))
  clear hW0
  refine (HV.out W0).mono ?_
  rintro e w1 ⟨rfl, hb1⟩
  have K1 := K0.keep hb1 K0.lt
  have R1 := R0.keep hb1 R0.lt
  have hB1 := binto hB0 hb1
  obtain ⟨k0, k1, k2, kf, klt⟩ := K1.d3
  have rlt := R1.lt
  clear K0 R0 hB0 hb1 HV
  dsimp only
  have klt1 : w.heap.size < w1.heap.size + 1 := by omega
  obtain ⟨r0, r1, rf, rlt⟩ := R1.d2
  have rlt1 : w.heap.size + 1 < w1.heap.size + 1 := by omega
  have rlt2 : w.heap.size + 1 < w1.heap.size + 1 + 1 := by omega
  go_wp2_with (go_at_call 29; refine (faultL_exact _ _ _).mono ?_; rintro e w' ⟨rfl, rfl⟩)
  exact bodyPost_ret (v := .tuple #[.slice none 0 0, .agg #[.int .i64 9, .int .i64 (-2)]]) (by simp [results, Try.results13, go_sem, r0, r1, rf, rlt, rlt1, rlt2]) rfl ⟨rfl, (by repeat (first | (with_reducible exact Below.refl _ _) | (with_reducible assumption) | ((with_reducible refine Below.setCell ?_ ?_ _); rotate_left; (focus (first | omega | (simp; done) | (simp; omega)))) | (with_reducible refine Below.drew ?_) | (with_reducible refine below_drewN ?_ _) | ((with_reducible refine Below.alloc ?_ ?_ _); rotate_left; (focus (first | omega | (simp; done) | (simp; omega))))))⟩

set_option maxRecDepth 100000 in
set_option maxHeartbeats 2000000 in
theorem lefts_list (W H : Int) (a : Option Addr) (np cp : Nat) (tv : Value) (l : List Int) (s R : Int) (w : World) (ht : Reads (Value.int .i64) w tv l) (h : imageFaultF W H np = (0, 0)) (hl : (l.length : Int) = W) (hok : listOk l = false) :
    Calls Try.prog 13 #[.agg #[.int .i64 W, .int .i64 H, .slice a np cp], tv, .int .i64 s, .int .i64 R] w fun e w' => e = .returned (.tuple #[.slice none 0 0, .agg #[.int .i64 4, .int .i64 (-2)]]) ∧ Below w.heap.size w w' := by
  have hV := validate_any W H a np cp
  rw [h] at hV
  have HV := Lib.hid hV
  clear hV
  have HL := Lib.hid (fun wz hz => validList_any tv l wz hz)
  have HT := Lib.hid ht
  have hlB : ((l.length : Int) != W) = false := by simpa using hl
  have HOK := Lib.hid hok
  obtain ⟨ta, tc, rfl, t1, t2, -⟩ := id ht
  clear h ht hl hok
  go_enter Try.func13, Try.ntmps13
  go_wp2_with fail
  generalize hW0 : World.alloc (World.alloc w _) _ = W0
  have K0 : Blk W0 w.heap.size #[.int .i64 W, .int .i64 H, .slice a np cp] 24 := by rw [← hW0]; exact (Blk.new _ _ _).alloc _
  have R0 : Blk W0 (w.heap.size + 1) #[.int .i64 0, .int .i64 0] 27 := by rw [← hW0]; exact Blk.newAt _ _ (by simp)
  have hB0 : Below w.heap.size w W0 := by rw [← hW0]; exact (by repeat (first | (with_reducible exact Below.refl _ _) | (with_reducible assumption) | ((with_reducible refine Below.setCell ?_ ?_ _); rotate_left; (focus (first | omega | (simp; done) | (simp; omega)))) | (with_reducible refine Below.drew ?_) | (with_reducible refine below_drewN ?_ _) | ((with_reducible refine Below.alloc ?_ ?_ _); rotate_left; (focus (first | omega | (simp; done) | (simp; omega))))))
  clear hW0
  refine (HV.out W0).mono ?_
  rintro e w1 ⟨rfl, hb1⟩
  have K1 := K0.keep hb1 K0.lt
  have R1 := R0.keep hb1 R0.lt
  have hB1 := binto hB0 hb1
  obtain ⟨k0, k1, k2, kf, klt⟩ := K1.d3
  have rlt := R1.lt
  clear K0 R0 hB0 hb1 HV
  dsimp only
  go_wp2_with fail
  generalize hW2 : World.alloc w1 _ = W2
  have R2 : Blk W2 (w.heap.size + 1) #[.int .i64 0, .int .i64 0] 27 := by rw [← hW2]; exact R1.alloc _
  have hB2 : Below w.heap.size w W2 := by rw [← hW2]; exact hB1.trans (below_alloc' hB1.size _)
  clear hW2 k0 k1 k2 kf klt rlt K1 R1 hB1
  refine (HL.out W2 (HT.out.below hB2)).mono ?_
  rintro e w3 ⟨rfl, hb3⟩
  rw [HOK.out]
  have R3 := R2.keep hb3 R2.lt
  have hB3 := binto hB2 hb3
  obtain ⟨r0, r1, rf, rlt⟩ := R3.d2
  have rlt1 : w.heap.size + 1 < w3.heap.size + 1 := by omega
  clear R2 hB2 hb3 HL
  dsimp only
  go_wp2_with (go_at_call 29; refine (faultL_exact _ _ _).mono ?_; rintro e w' ⟨rfl, rfl⟩)
  exact bodyPost_ret (v := .tuple #[.slice none 0 0, .agg #[.int .i64 4, .int .i64 (-2)]]) (by simp [results, Try.results13, go_sem, r0, r1, rf, rlt, rlt1]) rfl ⟨rfl, (by repeat (first | (with_reducible exact Below.refl _ _) | (with_reducible assumption) | ((with_reducible refine Below.setCell ?_ ?_ _); rotate_left; (focus (first | omega | (simp; done) | (simp; omega)))) | (with_reducible refine Below.drew ?_) | (with_reducible refine below_drewN ?_ _) | ((with_reducible refine Below.alloc ?_ ?_ _); rotate_left; (focus (first | omega | (simp; done) | (simp; omega))))))⟩

set_option maxRecDepth 100000 in
set_option maxHeartbeats 2000000 in
theorem lefts_scale (W H : Int) (a : Option Addr) (np cp : Nat) (tv : Value) (l : List Int) (s R : Int) (w : World) (ht : Reads (Value.int .i64) w tv l) (h : imageFaultF W H np = (0, 0)) (hl : (l.length : Int) = W) (hok : listOk l = true) (hs : inB s 3 6 = false) :
    Calls Try.prog 13 #[.agg #[.int .i64 W, .int .i64 H, .slice a np cp], tv, .int .i64 s, .int .i64 R] w fun e w' => e = .returned (.tuple #[.slice none 0 0, .agg #[.int .i64 4, .int .i64 (-3)]]) ∧ Below w.heap.size w w' := by
  have hV := validate_any W H a np cp
  rw [h] at hV
  have HV := Lib.hid hV
  clear hV
  have HL := Lib.hid (fun wz hz => validList_any tv l wz hz)
  have HT := Lib.hid ht
  have hlB : ((l.length : Int) != W) = false := by simpa using hl
  have hSC := validScale_any s
  rw [hs] at hSC
  have HSC := Lib.hid hSC
  clear hSC hs
  have HOK := Lib.hid hok
  obtain ⟨ta, tc, rfl, t1, t2, -⟩ := id ht
  clear h ht hl hok
  go_enter Try.func13, Try.ntmps13
  go_wp2_with fail
  generalize hW0 : World.alloc (World.alloc w _) _ = W0
  have K0 : Blk W0 w.heap.size #[.int .i64 W, .int .i64 H, .slice a np cp] 24 := by rw [← hW0]; exact (Blk.new _ _ _).alloc _
  have R0 : Blk W0 (w.heap.size + 1) #[.int .i64 0, .int .i64 0] 27 := by rw [← hW0]; exact Blk.newAt _ _ (by simp)
  have hB0 : Below w.heap.size w W0 := by rw [← hW0]; exact (by repeat (first | (with_reducible exact Below.refl _ _) | (with_reducible assumption) | ((with_reducible refine Below.setCell ?_ ?_ _); rotate_left; (focus (first | omega | (simp; done) | (simp; omega)))) | (with_reducible refine Below.drew ?_) | (with_reducible refine below_drewN ?_ _) | ((with_reducible refine Below.alloc ?_ ?_ _); rotate_left; (focus (first | omega | (simp; done) | (simp; omega))))))
  clear hW0
  refine (HV.out W0).mono ?_
  rintro e w1 ⟨rfl, hb1⟩
  have K1 := K0.keep hb1 K0.lt
  have R1 := R0.keep hb1 R0.lt
  have hB1 := binto hB0 hb1
  obtain ⟨k0, k1, k2, kf, klt⟩ := K1.d3
  have rlt := R1.lt
  clear K0 R0 hB0 hb1 HV
  dsimp only
  go_wp2_with fail
  generalize hW2 : World.alloc w1 _ = W2
  have R2 : Blk W2 (w.heap.size + 1) #[.int .i64 0, .int .i64 0] 27 := by rw [← hW2]; exact R1.alloc _
  have hB2 : Below w.heap.size w W2 := by rw [← hW2]; exact hB1.trans (below_alloc' hB1.size _)
  clear hW2 k0 k1 k2 kf klt rlt K1 R1 hB1
  refine (HL.out W2 (HT.out.below hB2)).mono ?_
  rintro e w3 ⟨rfl, hb3⟩
  rw [HOK.out]
  have R3 := R2.keep hb3 R2.lt
  have hB3 := binto hB2 hb3
  obtain ⟨r0, r1, rf, rlt⟩ := R3.d2
  have rlt1 : w.heap.size + 1 < w3.heap.size + 1 := by omega
  clear R2 hB2 hb3 HL
  dsimp only
  go_wp2_with (first | (go_at_call 41; refine (HSC.out _).mono ?_; rintro e w' ⟨rfl, rfl⟩) | (go_at_call 29; refine (faultL_exact _ _ _).mono ?_; rintro e w' ⟨rfl, rfl⟩))
  exact bodyPost_ret (v := .tuple #[.slice none 0 0, .agg #[.int .i64 4, .int .i64 (-3)]]) (by simp [results, Try.results13, go_sem, r0, r1, rf, rlt, rlt1]) rfl ⟨rfl, (by repeat (first | (with_reducible exact Below.refl _ _) | (with_reducible assumption) | ((with_reducible refine Below.setCell ?_ ?_ _); rotate_left; (focus (first | omega | (simp; done) | (simp; omega)))) | (with_reducible refine Below.drew ?_) | (with_reducible refine below_drewN ?_ _) | ((with_reducible refine Below.alloc ?_ ?_ _); rotate_left; (focus (first | omega | (simp; done) | (simp; omega))))))⟩

set_option maxRecDepth 100000 in
set_option maxHeartbeats 2000000 in
theorem lefts_rows (W H : Int) (a : Option Addr) (np cp : Nat) (tv : Value) (l : List Int) (s R : Int) (w : World) (ht : Reads (Value.int .i64) w tv l) (h : imageFaultF W H np = (0, 0)) (hl : (l.length : Int) = W) (hok : listOk l = true) (hs : inB s 3 6 = true) (hr : rowsB R = false) :
    Calls Try.prog 13 #[.agg #[.int .i64 W, .int .i64 H, .slice a np cp], tv, .int .i64 s, .int .i64 R] w fun e w' => e = .returned (.tuple #[.slice none 0 0, .agg #[.int .i64 4, .int .i64 (-4)]]) ∧ Below w.heap.size w w' := by
  have hV := validate_any W H a np cp
  rw [h] at hV
  have HV := Lib.hid hV
  clear hV
  have HL := Lib.hid (fun wz hz => validList_any tv l wz hz)
  have HT := Lib.hid ht
  have hlB : ((l.length : Int) != W) = false := by simpa using hl
  have hSC := validScale_any s
  rw [hs] at hSC
  have HSC := Lib.hid hSC
  clear hSC hs
  have hRW := validRows_any R
  rw [hr] at hRW
  have HRW := Lib.hid hRW
  have HOK := Lib.hid hok
  obtain ⟨ta, tc, rfl, t1, t2, -⟩ := id ht
  clear h ht hl hok hRW hr
  go_enter Try.func13, Try.ntmps13
  go_wp2_with fail
  generalize hW0 : World.alloc (World.alloc w _) _ = W0
  have K0 : Blk W0 w.heap.size #[.int .i64 W, .int .i64 H, .slice a np cp] 24 := by rw [← hW0]; exact (Blk.new _ _ _).alloc _
  have R0 : Blk W0 (w.heap.size + 1) #[.int .i64 0, .int .i64 0] 27 := by rw [← hW0]; exact Blk.newAt _ _ (by simp)
  have hB0 : Below w.heap.size w W0 := by rw [← hW0]; exact (by repeat (first | (with_reducible exact Below.refl _ _) | (with_reducible assumption) | ((with_reducible refine Below.setCell ?_ ?_ _); rotate_left; (focus (first | omega | (simp; done) | (simp; omega)))) | (with_reducible refine Below.drew ?_) | (with_reducible refine below_drewN ?_ _) | ((with_reducible refine Below.alloc ?_ ?_ _); rotate_left; (focus (first | omega | (simp; done) | (simp; omega))))))
  clear hW0
  refine (HV.out W0).mono ?_
  rintro e w1 ⟨rfl, hb1⟩
  have K1 := K0.keep hb1 K0.lt
  have R1 := R0.keep hb1 R0.lt
  have hB1 := binto hB0 hb1
  obtain ⟨k0, k1, k2, kf, klt⟩ := K1.d3
  have rlt := R1.lt
  clear K0 R0 hB0 hb1 HV
  dsimp only
  go_wp2_with fail
  generalize hW2 : World.alloc w1 _ = W2
  have R2 : Blk W2 (w.heap.size + 1) #[.int .i64 0, .int .i64 0] 27 := by rw [← hW2]; exact R1.alloc _
  have hB2 : Below w.heap.size w W2 := by rw [← hW2]; exact hB1.trans (below_alloc' hB1.size _)
  clear hW2 k0 k1 k2 kf klt rlt K1 R1 hB1
  refine (HL.out W2 (HT.out.below hB2)).mono ?_
  rintro e w3 ⟨rfl, hb3⟩
  rw [HOK.out]
  have R3 := R2.keep hb3 R2.lt
  have hB3 := binto hB2 hb3
  obtain ⟨r0, r1, rf, rlt⟩ := R3.d2
  have rlt1 : w.heap.size + 1 < w3.heap.size + 1 := by omega
  clear R2 hB2 hb3 HL
  dsimp only
  go_wp2_with (go_at_call 41; refine (HSC.out _).mono ?_; rintro e w' ⟨rfl, rfl⟩)
  refine (HRW.out w3).mono ?_
  rintro e w4 ⟨rfl, hb4⟩
  have R4 := R3.keep hb4 R3.lt
  have hB4 := binto hB3 hb4
  clear R3 hB3 hb4 HRW HSC r0 r1 rf rlt rlt1
  obtain ⟨r0, r1, rf, rlt⟩ := R4.d2
  have rlt1 : w.heap.size + 1 < w4.heap.size + 1 := by omega
  dsimp only
  go_wp2_with (go_at_call 29; refine (faultL_exact _ _ _).mono ?_; rintro e w' ⟨rfl, rfl⟩)
  exact bodyPost_ret (v := .tuple #[.slice none 0 0, .agg #[.int .i64 4, .int .i64 (-4)]]) (by simp [results, Try.results13, go_sem, r0, r1, rf, rlt, rlt1]) rfl ⟨rfl, (by repeat (first | (with_reducible exact Below.refl _ _) | (with_reducible assumption) | ((with_reducible refine Below.setCell ?_ ?_ _); rotate_left; (focus (first | omega | (simp; done) | (simp; omega)))) | (with_reducible refine Below.drew ?_) | (with_reducible refine below_drewN ?_ _) | ((with_reducible refine Below.alloc ?_ ?_ _); rotate_left; (focus (first | omega | (simp; done) | (simp; omega))))))⟩

end Go.Proofs.Ytnfgedbcfclnmaa

namespace Go.Proofs.Ytnfgedbcfclnmaa
open Go.RowKit

def LOfRet (W H : Int) (px l : List Int) (s R : Int) (w : World) (e : Ending) (w' : World) : Prop :=
  ∃ o, EdgesAre W H px l s R o ∧ ∃ v, e = .returned v ∧ w'.ownsRow w.heap.size 3 1 v o.length ((fillF o).map (Value.int .i64)) ∧ Below w.heap.size w w'

structure LoEnv (w : World) (W H : Int) (pv : Value) (wx : World) : Prop where
  below : Below w.heap.size w wx
  img : Blk wx w.heap.size #[.int .i64 W, .int .i64 H, pv] 24
theorem LoEnv.keep {w wx w1 : World} {W H : Int} {pv : Value} (h : LoEnv w W H pv wx) (hb : Below wx.heap.size wx w1) : LoEnv w W H pv w1 :=
  ⟨binto h.below hb, h.img.keep hb h.img.lt⟩

/-- The test of one step: does the next pixel exist, and is it dark? -/
theorem lo_false (W H : Int) (pv : Value) (n s : Int) : True := trivial

set_option maxRecDepth 100000 in
set_option maxHeartbeats 8000000 in
theorem leftsOf_any (W H : Int) (a : Option Addr) (np cp : Nat) (tv : Value) (px l : List Int) (s R : Int) (w : World) (h : ImgOk w W H (.slice a np cp) px) (ht : Reads (Value.int .i64) w tv l) (hW : (l.length : Int) = W) (hok : listOk l = true) (hs : 3 ≤ s ∧ s ≤ 6) (hR : R = 53 ∨ R = 85) :
    Calls Try.prog 15 #[.agg #[.int .i64 W, .int .i64 H, .slice a np cp], tv, .int .i64 s, .int .i64 R] w (LOfRet W H px l s R w) := by
  have h1 := h.w1
  have h2 := h.w2
  have h3 := h.h1
  have h4 := h.h2
  subst hW
  obtain ⟨hs1, hs2⟩ := hs
  obtain ⟨N, hN⟩ : ∃ N : Nat, R * s = N := ⟨(R * s).toNat, by rcases hR with rfl | rfl <;> omega⟩
  have hN1 : 159 ≤ N ∧ N ≤ 510 := by rcases hR with rfl | rfl <;> omega
  have hwr : IntKind.i64.wrap (R * s) = (N : Int) := by rw [hN]; exact IntWalk.i64_in _ (by omega)
  obtain ⟨b, off, cap, rfl, hc1, hc2, hb, hc⟩ := ht.some (by omega)
  have HT := Lib.hid ht
  have HC := Lib.hid hc
  have HOK := Lib.hid hok
  have HI := Lib.hid h
  have HN := Lib.hid hN
  clear ht hc hok h hR hN
  go_enter Try.func15, Try.ntmps15
  go_wp2_with fail
  generalize hW0 : World.alloc w _ = W0
  have E0 : LoEnv w l.length H (.slice a np cp) W0 := by rw [← hW0]; exact ⟨(by repeat (first | (with_reducible exact Below.refl _ _) | (with_reducible assumption) | ((with_reducible refine Below.setCell ?_ ?_ _); rotate_left; (focus (first | omega | (simp; done) | (simp; omega)))) | (with_reducible refine Below.drew ?_) | (with_reducible refine below_drewN ?_ _) | ((with_reducible refine Below.alloc ?_ ?_ _); rotate_left; (focus (first | omega | (simp; done) | (simp; omega)))))), Blk.new _ _ _⟩
  clear hW0
  go_loopw [9] (fun x wr => ∃ f : Nat, x = .int .i64 f ∧ f ≤ l.length ∧ Hid (∀ j, j < f → l.getD j 0 < 0) ∧ LoEnv w l.length H (.slice a np cp) wr) (fun x _ => l.length - (intOf x).toNat)
  case atStart => exact ⟨0, rfl, by omega, fun j hj => by omega, E0⟩
  case round =>
    clear E0
    obtain ⟨f, rfl, hf, hno, E⟩ := hrel
    obtain ⟨wa, rfl⟩ : ∃ wo : World, wo = wr := ⟨_, rfl⟩
    by_cases hgo : f < l.length ∧ l.getD f 0 < 0
    · obtain ⟨hf1, hf2⟩ := hgo
      have c0 := keep E.below (HC.out f _ (getD_some (d := 0) hf1)) hb
      obtain ⟨t, hte⟩ : ∃ t, t = l.getD f 0 := ⟨_, rfl⟩
      rw [← hte] at c0 hf2
      have hno' : ∀ j, j < f + 1 → l.getD j 0 < 0 := fun j hj => by
        rcases Nat.lt_or_eq_of_le (Nat.le_of_lt_succ hj) with g | rfl
        · exact hno.out j g
        · rw [← hte]; exact hf2
      have HNO := Lib.hid hno'
      have hd : (f : Int) < (l.length : Int) := by omega
      clear hte hno' hno
      go_wp2_with fail
      go_roundw
      case rel => exact ⟨f + 1, by go_num, by omega, HNO, E⟩
      case measure => simp [intOf]; omega
    · have hFT : FirstTop l f := ⟨hf, hno.out, fun hlt => by
        rcases Int.lt_or_le (l.getD f 0) 0 with g | g
        · exact absurd ⟨hlt, g⟩ hgo
        · exact g⟩
      have HFT := Lib.hid hFT
      obtain ⟨bs, hbs⟩ : ∃ bs : Int, bs = f + s := ⟨_, rfl⟩
      have hw1 : IntKind.i64.wrap ((f : Int) + s) = bs := by rw [hbs]; exact IntWalk.i64_in _ (by omega)
      have hw2 : IntKind.i64.wrap (4 * s) = 4 * s := IntWalk.i64_in _ (by omega)
      have hbb : 3 ≤ bs ∧ bs ≤ 650 := by omega
      have HBS := Lib.hid hbs
      clear hno hFT hbs
      by_cases hfl : f < l.length
      · obtain ⟨t, hte⟩ : ∃ t, t = l.getD f 0 := ⟨_, rfl⟩
        have c0 := keep E.below (HC.out f _ (getD_some (d := 0) hfl)) hb
        rw [← hte] at c0
        have ht0 : 0 ≤ t := by
          rcases Int.lt_or_le t 0 with g | g
          · exact absurd ⟨hfl, hte ▸ g⟩ hgo
          · exact g
        have hd : (f : Int) < (l.length : Int) := by omega
        clear hte hgo
        go_wp2_with fail
        go_loopw [11, 12] (fun v x wr => ∃ (k : Nat) (o : List Int), x = .int .i64 k ∧ k ≤ N ∧ o.length = k ∧ Hid (∀ j : Nat, j < k → EdgeIs (tAt l.length H l bs j) (dAt l.length H px l bs j) (4 * s).toNat bs (o.getD j 0)) ∧ LoEnv w l.length H (.slice a np cp) wr ∧ wr.ownsRow (w.heap.size + 1) 3 1 v k (o.map (Value.int .i64))) (fun _ x _ => N - (intOf x).toNat)
        case atStart => exact ⟨0, [], rfl, by omega, rfl, fun j hj => by omega, E, World.ownsRow_nil _ _ _ _⟩
        case round =>
          clear E
          obtain ⟨k, o, rfl, hk, hol, hed, E, hown⟩ := hrel
          obtain ⟨wb, rfl⟩ : ∃ wo : World, wo = wr := ⟨_, rfl⟩
          by_cases hkN : k < N
          · have hdk : decide ((k : Int) < (N : Int)) = true := by simp; omega
            have HED : ∀ v, EdgeIs (tAt l.length H l bs k) (dAt l.length H px l bs k) (4 * s).toNat bs v → Hid (∀ j : Nat, j < k + 1 → EdgeIs (tAt l.length H l bs j) (dAt l.length H px l bs j) (4 * s).toNat bs ((o ++ [v]).getD j 0)) := fun v hv j hj => by
              rcases Nat.lt_or_ge j k with g' | g'
              · have := hed.out j g'
                simpa [List.getD, List.getElem?_append_left (show j < o.length by omega)] using this
              · obtain rfl : j = k := by omega
                simpa [List.getD, ← hol] using hol ▸ hv
            have HED := Lib.hid HED
            clear hed
            go_wp2_with fail
            go_loopw [13] (fun x wr => ∃ n : Nat, x = .int .i64 n ∧ (n : Int) ≤ 4 * s + 1 ∧ Hid (∀ m, m < n → tAt l.length H l bs k m = true ∧ dAt l.length H px l bs k m = true) ∧ LoEnv w l.length H (.slice a np cp) wr ∧ Below wb.heap.size wb wr) (fun x _ => (4 * s + 1).toNat - (intOf x).toNat)
            case atStart => exact ⟨0, rfl, by omega, fun m hm => by omega, E, Below.refl _ _⟩
            case round =>
              clear E
              obtain ⟨n, rfl, hn, hall, E, hBw⟩ := hrel
              obtain ⟨wc, rfl⟩ : ∃ wo : World, wo = wr := ⟨_, rfl⟩
              have hwx : IntKind.i64.wrap (bs + (n : Int)) = bs + (n : Int) := IntWalk.i64_in _ (by omega)
              obtain ⟨k0, k1, k2, kf, klt⟩ := E.img.d3
              have HOWN := Lib.hid (own_keep hown hBw)
              have hszc := E.img.lt
              have hTH := fun wz h => there_any l.length H (.slice a np cp) (.slice (some ⟨b, off, none⟩) l.length cap) l (bs + n) k wz h rfl h2 HOK.out ⟨by omega, by omega⟩
              clear hown
              by_cases hn4 : (n : Int) ≤ 4 * s
              · have hd4 : decide ((n : Int) ≤ 4 * s) = true := by simpa using hn4
                cases htt : tAt l.length H l bs k n with
                | true =>
                  rw [show thereB (l.length : Int) H l (bs + n) k = true from htt] at hTH
                  have htt' : thereB (l.length : Int) H l (bs + n) k = true := htt
                  simp only [thereB, inB, Bool.and_eq_true, decide_eq_true_eq] at htt'
                  obtain ⟨⟨⟨g1, g2⟩, g3⟩, g4⟩ := htt'
                  obtain ⟨xn, hxn⟩ : ∃ xn : Nat, bs + (n : Int) = xn := ⟨(bs + n).toNat, by omega⟩
                  have hxl : xn < l.length := by omega
                  have hxl2 : (xn : Int) < (l.length : Int) := by omega
                  have cx := keep E.below (HC.out xn _ (getD_some (d := 0) hxl)) hb
                  obtain ⟨hok1, hok2⟩ := listOk_get HOK.out hxl
                  rw [hxn, Int.toNat_natCast] at g3 g4
                  have hdd : dAt l.length H px l bs k n = darkB l.length H px xn (l.getD xn 0 + k) := by
                    simp only [dAt, darkB]; rw [hxn, Int.toNat_natCast]
                  obtain ⟨tx, htx⟩ : ∃ tx, tx = l.getD xn 0 := ⟨_, rfl⟩
                  rw [← htx] at cx g3 g4 hok1 hok2 hdd
                  have hwt : IntKind.i64.wrap (tx + (k : Int)) = tx + (k : Int) := IntWalk.i64_in _ (by omega)
                  rw [hxn] at hTH
                  replace hwx : IntKind.i64.wrap (bs + (n : Int)) = (xn : Int) := by rw [hwx, hxn]
                  have hbc : b < wc.heap.size := Nat.lt_of_lt_of_le hb E.below.size
                  have HTH := Lib.hid hTH
                  have HXN := Lib.hid hxn
                  have HTT := Lib.hid htt
                  clear hTH htt htx hxn
                  cases hdk : darkB l.length H px xn (tx + k) with
                  | true =>
                    have hall' : ∀ m, m < n + 1 → tAt l.length H l bs k m = true ∧ dAt l.length H px l bs k m = true := fun m hm => by
                      rcases Nat.lt_or_eq_of_le (Nat.le_of_lt_succ hm) with g | rfl
                      · exact hall.out m g
                      · exact ⟨HTT.out, by rw [hdd]; exact hdk⟩
                    have HALL := Lib.hid hall'
                    have HDK := Lib.hid (fun wz hz => dark_is (pv := .slice a np cp) hdk (w := wz) hz)
                    clear hall hall' hdd hdk
                    go_wp2_with fail
                    refine wp_region_held_drew (S := fun w' => w'.cell? ⟨w.heap.size, 0, none⟩ = some (.int .i64 l.length) ∧ w'.cell? ⟨w.heap.size, 1, none⟩ = some (.int .i64 H) ∧ w'.cell? ⟨w.heap.size, 2, none⟩ = some (.slice a np cp) ∧ w'.cell? ⟨b, off + xn, none⟩ = some (.int .i64 tx)) (by kernel_rfl) ⟨k0, k1, k2, cx⟩ (fun hHeld => ?_)
                    (refine wpAnyH_take (i := 0) (v := ?_) (by simp only [List.getElem?_toArray, List.getElem?_cons_succ, List.getElem?_cons_zero]; rfl) (by kernel_rfl) (by kernel_rfl) (by kernel_rfl) ?_ (Or.inl ⟨by rfl, ?_⟩) (by assumption) ?_; rotate_left; (focus (exact fun _ _ _ h => h)); (focus ((intro w hSw); (try dsimp only at hSw); (first | (go_simp; done) | (go_simp; with_reducible rfl)))); (try simp only [Act.put, List.setIfInBounds_toArray, List.set_cons_zero, List.set_cons_succ]))
                    (refine wpAnyH_take (i := 1) (v := ?_) (by simp only [List.getElem?_toArray, List.getElem?_cons_succ, List.getElem?_cons_zero]; rfl) (by kernel_rfl) (by kernel_rfl) (by kernel_rfl) ?_ (Or.inl ⟨by rfl, ?_⟩) (by assumption) ?_; rotate_left; (focus (exact fun _ _ _ h => h)); (focus ((intro w hSw); (try dsimp only at hSw); (first | (go_simp; done) | (go_simp; with_reducible rfl)))); (try simp only [Act.put, List.setIfInBounds_toArray, List.set_cons_zero, List.set_cons_succ]))
                    (refine wpAnyH_take (i := 2) (v := ?_) (by simp only [List.getElem?_toArray, List.getElem?_cons_succ, List.getElem?_cons_zero]; rfl) (by kernel_rfl) (by kernel_rfl) (by kernel_rfl) ?_ (Or.inl ⟨by rfl, ?_⟩) (by assumption) ?_; rotate_left; (focus (exact fun _ _ _ h => h)); (focus ((intro w hSw); (try dsimp only at hSw); (first | (go_simp; done) | (go_simp; with_reducible rfl)))); (try simp only [Act.put, List.setIfInBounds_toArray, List.set_cons_zero, List.set_cons_succ]))
                    (refine wpAnyH_take (i := 3) (v := ?_) (by simp only [List.getElem?_toArray, List.getElem?_cons_succ, List.getElem?_cons_zero]; rfl) (by kernel_rfl) (by kernel_rfl) (by kernel_rfl) ?_ (Or.inl ⟨by rfl, ?_⟩) (by assumption) ?_; rotate_left; (focus (exact fun _ _ _ h => h)); (focus ((intro w hSw); (try dsimp only at hSw); (first | (go_simp; done) | (go_simp; with_reducible rfl)))); (try simp only [Act.put, List.setIfInBounds_toArray, List.set_cons_zero, List.set_cons_succ]))
                    (refine wpAnyH_take (i := 4) (v := ?_) (by simp only [List.getElem?_toArray, List.getElem?_cons_succ, List.getElem?_cons_zero]; rfl) (by kernel_rfl) (by kernel_rfl) (by kernel_rfl) ?_ (Or.inl ⟨by rfl, ?_⟩) (by assumption) ?_; rotate_left; (focus (exact fun _ _ _ h => h)); (focus ((intro w hSw); (try dsimp only at hSw); (first | (go_simp; done) | (go_simp; with_reducible rfl)))); (try simp only [Act.put, List.setIfInBounds_toArray, List.set_cons_zero, List.set_cons_succ]))
                    (refine wpAnyH_take (i := 5) (v := ?_) (by simp only [List.getElem?_toArray, List.getElem?_cons_succ, List.getElem?_cons_zero]; rfl) (by kernel_rfl) (by kernel_rfl) (by kernel_rfl) ?_ (Or.inl ⟨by rfl, ?_⟩) (by assumption) ?_; rotate_left; (focus (exact fun _ _ _ h => h)); (focus ((intro w hSw); (try dsimp only at hSw); (first | (go_simp; done) | (go_simp; with_reducible rfl)))); (try simp only [Act.put, List.setIfInBounds_toArray, List.set_cons_zero, List.set_cons_succ]))
                    (refine wpAnyH_take (i := 6) (v := ?_) (by simp only [List.getElem?_toArray, List.getElem?_cons_succ, List.getElem?_cons_zero]; rfl) (by kernel_rfl) (by kernel_rfl) (by kernel_rfl) ?_ (Or.inl ⟨by rfl, ?_⟩) (by assumption) ?_; rotate_left; (focus (exact fun _ _ _ h => h)); (focus ((intro w hSw); (try dsimp only at hSw); (first | (go_simp; done) | (go_simp; with_reducible rfl)))); (try simp only [Act.put, List.setIfInBounds_toArray, List.set_cons_zero, List.set_cons_succ]))
                    (refine wpAnyH_take (i := 7) (v := ?_) (by simp only [List.getElem?_toArray, List.getElem?_cons_succ, List.getElem?_cons_zero]; rfl) (by kernel_rfl) (by kernel_rfl) (by kernel_rfl) ?_ (Or.inl ⟨by rfl, ?_⟩) (by assumption) ?_; rotate_left; (focus (exact fun _ _ _ h => h)); (focus ((intro w hSw); (try dsimp only at hSw); (first | (go_simp; done) | (go_simp; with_reducible rfl)))); (try simp only [Act.put, List.setIfInBounds_toArray, List.set_cons_zero, List.set_cons_succ]))
                    (refine wpAnyH_take (i := 8) (v := ?_) (by simp only [List.getElem?_toArray, List.getElem?_cons_succ, List.getElem?_cons_zero]; rfl) (by kernel_rfl) (by kernel_rfl) (by kernel_rfl) ?_ (Or.inl ⟨by rfl, ?_⟩) (by assumption) ?_; rotate_left; (focus (exact fun _ _ _ h => h)); (focus ((intro w hSw); (try dsimp only at hSw); (first | (go_simp; done) | (go_simp; with_reducible rfl)))); (try simp only [Act.put, List.setIfInBounds_toArray, List.set_cons_zero, List.set_cons_succ]))
                    (refine wpAnyH_take (i := 9) (v := ?_) (by simp only [List.getElem?_toArray, List.getElem?_cons_succ, List.getElem?_cons_zero]; rfl) (by kernel_rfl) (by kernel_rfl) (by kernel_rfl) ?_ (Or.inl ⟨by rfl, ?_⟩) (by assumption) ?_; rotate_left; (focus (exact fun _ _ _ h => h)); (focus ((intro w hSw); (try dsimp only at hSw); (first | (go_simp; done) | (go_simp; with_reducible rfl)))); (try simp only [Act.put, List.setIfInBounds_toArray, List.set_cons_zero, List.set_cons_succ]))
                    (refine wpAnyH_take (i := 10) (v := ?_) (by simp only [List.getElem?_toArray, List.getElem?_cons_succ, List.getElem?_cons_zero]; rfl) (by kernel_rfl) (by kernel_rfl) (by kernel_rfl) ?_ (Or.inl ⟨by rfl, ?_⟩) (by assumption) ?_; rotate_left; (focus (exact fun _ _ _ h => h)); (focus ((intro w hSw); (try dsimp only at hSw); (first | (go_simp; done) | (go_simp; with_reducible rfl)))); (try simp only [Act.put, List.setIfInBounds_toArray, List.set_cons_zero, List.set_cons_succ]))
                    refine wpAnyH_ready (rs := [11]) (by kernel_rfl) (by simp) ?_
                    refine AllReadyH.cons (by simp only [List.getElem?_toArray, List.getElem?_cons_succ, List.getElem?_cons_zero]; rfl) (fun K hK => ?_) AllReadyH.nil
                    go_simp
                    refine (HTH.out _ (HT.out.below E.below.drew)).mono ?_
                    rintro e wf ⟨rfl, hbf⟩
                    dsimp only
                    refine hK.out _ _ ⟨keep (w := wc.drew) hbf k0 klt, keep (w := wc.drew) hbf k1 klt, keep (w := wc.drew) hbf k2 klt, keep (w := wc.drew) hbf cx hbc⟩ (fun hHeld2 => ?_)
                    clear hK K hHeld
                    try simp only [Act.put, List.setIfInBounds_toArray, List.set_cons_zero, List.set_cons_succ]
                    (refine wpAnyH_take (i := 12) (v := ?_) (by simp only [List.getElem?_toArray, List.getElem?_cons_succ, List.getElem?_cons_zero]; rfl) (by kernel_rfl) (by kernel_rfl) (by kernel_rfl) ?_ (Or.inl ⟨by rfl, ?_⟩) (by assumption) ?_; rotate_left; (focus (exact fun _ _ _ h => h)); (focus ((intro w hSw); (try dsimp only at hSw); (first | (go_simp; done) | (go_simp; with_reducible rfl)))); (try simp only [Act.put, List.setIfInBounds_toArray, List.set_cons_zero, List.set_cons_succ]))
                    (refine wpAnyH_take (i := 13) (v := ?_) (by simp only [List.getElem?_toArray, List.getElem?_cons_succ, List.getElem?_cons_zero]; rfl) (by kernel_rfl) (by kernel_rfl) (by kernel_rfl) ?_ (Or.inl ⟨by rfl, ?_⟩) (by assumption) ?_; rotate_left; (focus (exact fun _ _ _ h => h)); (focus ((intro w hSw); (try dsimp only at hSw); (first | (go_simp; done) | (go_simp; with_reducible rfl)))); (try simp only [Act.put, List.setIfInBounds_toArray, List.set_cons_zero, List.set_cons_succ]))
                    (refine wpAnyH_take (i := 14) (v := ?_) (by simp only [List.getElem?_toArray, List.getElem?_cons_succ, List.getElem?_cons_zero]; rfl) (by kernel_rfl) (by kernel_rfl) (by kernel_rfl) ?_ (Or.inl ⟨by rfl, ?_⟩) (by assumption) ?_; rotate_left; (focus (exact fun _ _ _ h => h)); (focus ((intro w hSw); (try dsimp only at hSw); (first | (go_simp; done) | (go_simp; with_reducible rfl)))); (try simp only [Act.put, List.setIfInBounds_toArray, List.set_cons_zero, List.set_cons_succ]))
                    (refine wpAnyH_take (i := 15) (v := ?_) (by simp only [List.getElem?_toArray, List.getElem?_cons_succ, List.getElem?_cons_zero]; rfl) (by kernel_rfl) (by kernel_rfl) (by kernel_rfl) ?_ (Or.inl ⟨by rfl, ?_⟩) (by assumption) ?_; rotate_left; (focus (exact fun _ _ _ h => h)); (focus ((intro w hSw); (try dsimp only at hSw); (first | (go_simp; done) | (go_simp; with_reducible rfl)))); (try simp only [Act.put, List.setIfInBounds_toArray, List.set_cons_zero, List.set_cons_succ]))
                    (refine wpAnyH_take (i := 16) (v := ?_) (by simp only [List.getElem?_toArray, List.getElem?_cons_succ, List.getElem?_cons_zero]; rfl) (by kernel_rfl) (by kernel_rfl) (by kernel_rfl) ?_ (Or.inl ⟨by rfl, ?_⟩) (by assumption) ?_; rotate_left; (focus (exact fun _ _ _ h => h)); (focus ((intro w hSw); (try dsimp only at hSw); (first | (go_simp; done) | (go_simp; with_reducible rfl)))); (try simp only [Act.put, List.setIfInBounds_toArray, List.set_cons_zero, List.set_cons_succ]))
                    (refine wpAnyH_take (i := 17) (v := ?_) (by simp only [List.getElem?_toArray, List.getElem?_cons_succ, List.getElem?_cons_zero]; rfl) (by kernel_rfl) (by kernel_rfl) (by kernel_rfl) ?_ (Or.inl ⟨by rfl, ?_⟩) (by assumption) ?_; rotate_left; (focus (exact fun _ _ _ h => h)); (focus ((intro w hSw); (try dsimp only at hSw); (first | (go_simp; done) | (go_simp; with_reducible rfl)))); (try simp only [Act.put, List.setIfInBounds_toArray, List.set_cons_zero, List.set_cons_succ]))
                    (refine wpAnyH_take (i := 18) (v := ?_) (by simp only [List.getElem?_toArray, List.getElem?_cons_succ, List.getElem?_cons_zero]; rfl) (by kernel_rfl) (by kernel_rfl) (by kernel_rfl) ?_ (Or.inl ⟨by rfl, ?_⟩) (by assumption) ?_; rotate_left; (focus (exact fun _ _ _ h => h)); (focus ((intro w hSw); (try dsimp only at hSw); (first | (go_simp; done) | (go_simp; with_reducible rfl)))); (try simp only [Act.put, List.setIfInBounds_toArray, List.set_cons_zero, List.set_cons_succ]))
                    (refine wpAnyH_take (i := 19) (v := ?_) (by simp only [List.getElem?_toArray, List.getElem?_cons_succ, List.getElem?_cons_zero]; rfl) (by kernel_rfl) (by kernel_rfl) (by kernel_rfl) ?_ (Or.inl ⟨by rfl, ?_⟩) (by assumption) ?_; rotate_left; (focus (exact fun _ _ _ h => h)); (focus ((intro w hSw); (try dsimp only at hSw); (first | (go_simp; done) | (go_simp; with_reducible rfl)))); (try simp only [Act.put, List.setIfInBounds_toArray, List.set_cons_zero, List.set_cons_succ]))
                    (refine wpAnyH_take (i := 20) (v := ?_) (by simp only [List.getElem?_toArray, List.getElem?_cons_succ, List.getElem?_cons_zero]; rfl) (by kernel_rfl) (by kernel_rfl) (by kernel_rfl) ?_ (Or.inl ⟨by rfl, ?_⟩) (by assumption) ?_; rotate_left; (focus (exact fun _ _ _ h => h)); (focus ((intro w hSw); (try dsimp only at hSw); (first | (go_simp; done) | (go_simp; with_reducible rfl)))); (try simp only [Act.put, List.setIfInBounds_toArray, List.set_cons_zero, List.set_cons_succ]))
                    (refine wpAnyH_take (i := 21) (v := ?_) (by simp only [List.getElem?_toArray, List.getElem?_cons_succ, List.getElem?_cons_zero]; rfl) (by kernel_rfl) (by kernel_rfl) (by kernel_rfl) ?_ (Or.inl ⟨by rfl, ?_⟩) (by assumption) ?_; rotate_left; (focus (exact fun _ _ _ h => h)); (focus ((intro w hSw); (try dsimp only at hSw); (first | (go_simp; done) | (go_simp; with_reducible rfl)))); (try simp only [Act.put, List.setIfInBounds_toArray, List.set_cons_zero, List.set_cons_succ]))
                    (refine wpAnyH_take (i := 22) (v := ?_) (by simp only [List.getElem?_toArray, List.getElem?_cons_succ, List.getElem?_cons_zero]; rfl) (by kernel_rfl) (by kernel_rfl) (by kernel_rfl) ?_ (Or.inl ⟨by rfl, ?_⟩) (by assumption) ?_; rotate_left; (focus (exact fun _ _ _ h => h)); (focus ((intro w hSw); (try dsimp only at hSw); (first | (go_simp; done) | (go_simp; with_reducible rfl)))); (try simp only [Act.put, List.setIfInBounds_toArray, List.set_cons_zero, List.set_cons_succ]))
                    (refine wpAnyH_take (i := 23) (v := ?_) (by simp only [List.getElem?_toArray, List.getElem?_cons_succ, List.getElem?_cons_zero]; rfl) (by kernel_rfl) (by kernel_rfl) (by kernel_rfl) ?_ (Or.inl ⟨by rfl, ?_⟩) (by assumption) ?_; rotate_left; (focus (exact fun _ _ _ h => h)); (focus ((intro w hSw); (try dsimp only at hSw); (first | (go_simp; done) | (go_simp; with_reducible rfl)))); (try simp only [Act.put, List.setIfInBounds_toArray, List.set_cons_zero, List.set_cons_succ]))
                    (refine wpAnyH_take (i := 24) (v := ?_) (by simp only [List.getElem?_toArray, List.getElem?_cons_succ, List.getElem?_cons_zero]; rfl) (by kernel_rfl) (by kernel_rfl) (by kernel_rfl) ?_ (Or.inl ⟨by rfl, ?_⟩) (by assumption) ?_; rotate_left; (focus (exact fun _ _ _ h => h)); (focus ((intro w hSw); (try dsimp only at hSw); (first | (go_simp; done) | (go_simp; with_reducible rfl)))); (try simp only [Act.put, List.setIfInBounds_toArray, List.set_cons_zero, List.set_cons_succ]))
                    (refine wpAnyH_take (i := 25) (v := ?_) (by simp only [List.getElem?_toArray, List.getElem?_cons_succ, List.getElem?_cons_zero]; rfl) (by kernel_rfl) (by kernel_rfl) (by kernel_rfl) ?_ (Or.inl ⟨by rfl, ?_⟩) (by assumption) ?_; rotate_left; (focus (exact fun _ _ _ h => h)); (focus ((intro w hSw); (try dsimp only at hSw); (first | (go_simp; done) | (go_simp; with_reducible rfl)))); (try simp only [Act.put, List.setIfInBounds_toArray, List.set_cons_zero, List.set_cons_succ]))
                    refine wpAnyH_ready (rs := [26]) (by kernel_rfl) (by simp) ?_
                    refine AllReadyH.cons (by simp only [List.getElem?_toArray, List.getElem?_cons_succ, List.getElem?_cons_zero]; rfl) (fun K hK => ?_) AllReadyH.nil
                    go_simp
                    refine (HDK.out _ (HI.out.below (binto E.below.drew hbf))).mono ?_
                    rintro e wg ⟨rfl, hbg⟩
                    have hbfg := binto hbf hbg
                    dsimp only
                    refine hK.out _ _ ⟨keep (w := wc.drew) hbfg k0 klt, keep (w := wc.drew) hbfg k1 klt, keep (w := wc.drew) hbfg k2 klt, keep (w := wc.drew) hbfg cx hbc⟩ (fun hHeld3 => ?_)
                    clear hK K hHeld2
                    try simp only [Act.put, List.setIfInBounds_toArray, List.set_cons_zero, List.set_cons_succ]
                    (refine wpAnyH_take (i := 27) (v := ?_) (by simp only [List.getElem?_toArray, List.getElem?_cons_succ, List.getElem?_cons_zero]; rfl) (by kernel_rfl) (by kernel_rfl) (by kernel_rfl) ?_ (Or.inl ⟨by rfl, ?_⟩) (by assumption) ?_; rotate_left; (focus (exact fun _ _ _ h => h)); (focus ((intro w hSw); (try dsimp only at hSw); (first | (go_simp; done) | (go_simp; with_reducible rfl)))); (try simp only [Act.put, List.setIfInBounds_toArray, List.set_cons_zero, List.set_cons_succ]))
                    refine wpAnyH_done (by kernel_rfl) ?_ _
                    have E' : LoEnv w l.length H (.slice a np cp) wg := E.keep ((Below.refl wc.heap.size wc).drew.trans hbfg)
                    have hBw' : Below wb.heap.size wb wg := binto hBw ((Below.refl wc.heap.size wc).drew.trans hbfg)
                    clear hHeld3 hbf hbg hbfg
                    go_wp2_with fail
                    go_roundw
                    case rel => exact ⟨n + 1, by go_num, by omega, HALL, E', hBw'⟩
                    case measure => simp [intOf]; omega
                  | false =>
                    have HDK := Lib.hid (fun wz hz => dark_is (pv := .slice a np cp) hdk (w := wz) hz)
                    have hdf : dAt l.length H px l bs k n = false := by rw [hdd]; exact hdk
                    have HDF := Lib.hid hdf
                    have HALL := Lib.hid hall
                    clear hall hdd hdk hdf
                    go_wp2_with fail
                    refine wp_region_held_drew (S := fun w' => w'.cell? ⟨w.heap.size, 0, none⟩ = some (.int .i64 l.length) ∧ w'.cell? ⟨w.heap.size, 1, none⟩ = some (.int .i64 H) ∧ w'.cell? ⟨w.heap.size, 2, none⟩ = some (.slice a np cp) ∧ w'.cell? ⟨b, off + xn, none⟩ = some (.int .i64 tx)) (by kernel_rfl) ⟨k0, k1, k2, cx⟩ (fun hHeld => ?_)
                    (refine wpAnyH_take (i := 0) (v := ?_) (by simp only [List.getElem?_toArray, List.getElem?_cons_succ, List.getElem?_cons_zero]; rfl) (by kernel_rfl) (by kernel_rfl) (by kernel_rfl) ?_ (Or.inl ⟨by rfl, ?_⟩) (by assumption) ?_; rotate_left; (focus (exact fun _ _ _ h => h)); (focus ((intro w hSw); (try dsimp only at hSw); (first | (go_simp; done) | (go_simp; with_reducible rfl)))); (try simp only [Act.put, List.setIfInBounds_toArray, List.set_cons_zero, List.set_cons_succ]))
                    (refine wpAnyH_take (i := 1) (v := ?_) (by simp only [List.getElem?_toArray, List.getElem?_cons_succ, List.getElem?_cons_zero]; rfl) (by kernel_rfl) (by kernel_rfl) (by kernel_rfl) ?_ (Or.inl ⟨by rfl, ?_⟩) (by assumption) ?_; rotate_left; (focus (exact fun _ _ _ h => h)); (focus ((intro w hSw); (try dsimp only at hSw); (first | (go_simp; done) | (go_simp; with_reducible rfl)))); (try simp only [Act.put, List.setIfInBounds_toArray, List.set_cons_zero, List.set_cons_succ]))
                    (refine wpAnyH_take (i := 2) (v := ?_) (by simp only [List.getElem?_toArray, List.getElem?_cons_succ, List.getElem?_cons_zero]; rfl) (by kernel_rfl) (by kernel_rfl) (by kernel_rfl) ?_ (Or.inl ⟨by rfl, ?_⟩) (by assumption) ?_; rotate_left; (focus (exact fun _ _ _ h => h)); (focus ((intro w hSw); (try dsimp only at hSw); (first | (go_simp; done) | (go_simp; with_reducible rfl)))); (try simp only [Act.put, List.setIfInBounds_toArray, List.set_cons_zero, List.set_cons_succ]))
                    (refine wpAnyH_take (i := 3) (v := ?_) (by simp only [List.getElem?_toArray, List.getElem?_cons_succ, List.getElem?_cons_zero]; rfl) (by kernel_rfl) (by kernel_rfl) (by kernel_rfl) ?_ (Or.inl ⟨by rfl, ?_⟩) (by assumption) ?_; rotate_left; (focus (exact fun _ _ _ h => h)); (focus ((intro w hSw); (try dsimp only at hSw); (first | (go_simp; done) | (go_simp; with_reducible rfl)))); (try simp only [Act.put, List.setIfInBounds_toArray, List.set_cons_zero, List.set_cons_succ]))
                    (refine wpAnyH_take (i := 4) (v := ?_) (by simp only [List.getElem?_toArray, List.getElem?_cons_succ, List.getElem?_cons_zero]; rfl) (by kernel_rfl) (by kernel_rfl) (by kernel_rfl) ?_ (Or.inl ⟨by rfl, ?_⟩) (by assumption) ?_; rotate_left; (focus (exact fun _ _ _ h => h)); (focus ((intro w hSw); (try dsimp only at hSw); (first | (go_simp; done) | (go_simp; with_reducible rfl)))); (try simp only [Act.put, List.setIfInBounds_toArray, List.set_cons_zero, List.set_cons_succ]))
                    (refine wpAnyH_take (i := 5) (v := ?_) (by simp only [List.getElem?_toArray, List.getElem?_cons_succ, List.getElem?_cons_zero]; rfl) (by kernel_rfl) (by kernel_rfl) (by kernel_rfl) ?_ (Or.inl ⟨by rfl, ?_⟩) (by assumption) ?_; rotate_left; (focus (exact fun _ _ _ h => h)); (focus ((intro w hSw); (try dsimp only at hSw); (first | (go_simp; done) | (go_simp; with_reducible rfl)))); (try simp only [Act.put, List.setIfInBounds_toArray, List.set_cons_zero, List.set_cons_succ]))
                    (refine wpAnyH_take (i := 6) (v := ?_) (by simp only [List.getElem?_toArray, List.getElem?_cons_succ, List.getElem?_cons_zero]; rfl) (by kernel_rfl) (by kernel_rfl) (by kernel_rfl) ?_ (Or.inl ⟨by rfl, ?_⟩) (by assumption) ?_; rotate_left; (focus (exact fun _ _ _ h => h)); (focus ((intro w hSw); (try dsimp only at hSw); (first | (go_simp; done) | (go_simp; with_reducible rfl)))); (try simp only [Act.put, List.setIfInBounds_toArray, List.set_cons_zero, List.set_cons_succ]))
                    (refine wpAnyH_take (i := 7) (v := ?_) (by simp only [List.getElem?_toArray, List.getElem?_cons_succ, List.getElem?_cons_zero]; rfl) (by kernel_rfl) (by kernel_rfl) (by kernel_rfl) ?_ (Or.inl ⟨by rfl, ?_⟩) (by assumption) ?_; rotate_left; (focus (exact fun _ _ _ h => h)); (focus ((intro w hSw); (try dsimp only at hSw); (first | (go_simp; done) | (go_simp; with_reducible rfl)))); (try simp only [Act.put, List.setIfInBounds_toArray, List.set_cons_zero, List.set_cons_succ]))
                    (refine wpAnyH_take (i := 8) (v := ?_) (by simp only [List.getElem?_toArray, List.getElem?_cons_succ, List.getElem?_cons_zero]; rfl) (by kernel_rfl) (by kernel_rfl) (by kernel_rfl) ?_ (Or.inl ⟨by rfl, ?_⟩) (by assumption) ?_; rotate_left; (focus (exact fun _ _ _ h => h)); (focus ((intro w hSw); (try dsimp only at hSw); (first | (go_simp; done) | (go_simp; with_reducible rfl)))); (try simp only [Act.put, List.setIfInBounds_toArray, List.set_cons_zero, List.set_cons_succ]))
                    (refine wpAnyH_take (i := 9) (v := ?_) (by simp only [List.getElem?_toArray, List.getElem?_cons_succ, List.getElem?_cons_zero]; rfl) (by kernel_rfl) (by kernel_rfl) (by kernel_rfl) ?_ (Or.inl ⟨by rfl, ?_⟩) (by assumption) ?_; rotate_left; (focus (exact fun _ _ _ h => h)); (focus ((intro w hSw); (try dsimp only at hSw); (first | (go_simp; done) | (go_simp; with_reducible rfl)))); (try simp only [Act.put, List.setIfInBounds_toArray, List.set_cons_zero, List.set_cons_succ]))
                    (refine wpAnyH_take (i := 10) (v := ?_) (by simp only [List.getElem?_toArray, List.getElem?_cons_succ, List.getElem?_cons_zero]; rfl) (by kernel_rfl) (by kernel_rfl) (by kernel_rfl) ?_ (Or.inl ⟨by rfl, ?_⟩) (by assumption) ?_; rotate_left; (focus (exact fun _ _ _ h => h)); (focus ((intro w hSw); (try dsimp only at hSw); (first | (go_simp; done) | (go_simp; with_reducible rfl)))); (try simp only [Act.put, List.setIfInBounds_toArray, List.set_cons_zero, List.set_cons_succ]))
                    refine wpAnyH_ready (rs := [11]) (by kernel_rfl) (by simp) ?_
                    refine AllReadyH.cons (by simp only [List.getElem?_toArray, List.getElem?_cons_succ, List.getElem?_cons_zero]; rfl) (fun K hK => ?_) AllReadyH.nil
                    go_simp
                    refine (HTH.out _ (HT.out.below E.below.drew)).mono ?_
                    rintro e wf ⟨rfl, hbf⟩
                    dsimp only
                    refine hK.out _ _ ⟨keep (w := wc.drew) hbf k0 klt, keep (w := wc.drew) hbf k1 klt, keep (w := wc.drew) hbf k2 klt, keep (w := wc.drew) hbf cx hbc⟩ (fun hHeld2 => ?_)
                    clear hK K hHeld
                    try simp only [Act.put, List.setIfInBounds_toArray, List.set_cons_zero, List.set_cons_succ]
                    (refine wpAnyH_take (i := 12) (v := ?_) (by simp only [List.getElem?_toArray, List.getElem?_cons_succ, List.getElem?_cons_zero]; rfl) (by kernel_rfl) (by kernel_rfl) (by kernel_rfl) ?_ (Or.inl ⟨by rfl, ?_⟩) (by assumption) ?_; rotate_left; (focus (exact fun _ _ _ h => h)); (focus ((intro w hSw); (try dsimp only at hSw); (first | (go_simp; done) | (go_simp; with_reducible rfl)))); (try simp only [Act.put, List.setIfInBounds_toArray, List.set_cons_zero, List.set_cons_succ]))
                    (refine wpAnyH_take (i := 13) (v := ?_) (by simp only [List.getElem?_toArray, List.getElem?_cons_succ, List.getElem?_cons_zero]; rfl) (by kernel_rfl) (by kernel_rfl) (by kernel_rfl) ?_ (Or.inl ⟨by rfl, ?_⟩) (by assumption) ?_; rotate_left; (focus (exact fun _ _ _ h => h)); (focus ((intro w hSw); (try dsimp only at hSw); (first | (go_simp; done) | (go_simp; with_reducible rfl)))); (try simp only [Act.put, List.setIfInBounds_toArray, List.set_cons_zero, List.set_cons_succ]))
                    (refine wpAnyH_take (i := 14) (v := ?_) (by simp only [List.getElem?_toArray, List.getElem?_cons_succ, List.getElem?_cons_zero]; rfl) (by kernel_rfl) (by kernel_rfl) (by kernel_rfl) ?_ (Or.inl ⟨by rfl, ?_⟩) (by assumption) ?_; rotate_left; (focus (exact fun _ _ _ h => h)); (focus ((intro w hSw); (try dsimp only at hSw); (first | (go_simp; done) | (go_simp; with_reducible rfl)))); (try simp only [Act.put, List.setIfInBounds_toArray, List.set_cons_zero, List.set_cons_succ]))
                    (refine wpAnyH_take (i := 15) (v := ?_) (by simp only [List.getElem?_toArray, List.getElem?_cons_succ, List.getElem?_cons_zero]; rfl) (by kernel_rfl) (by kernel_rfl) (by kernel_rfl) ?_ (Or.inl ⟨by rfl, ?_⟩) (by assumption) ?_; rotate_left; (focus (exact fun _ _ _ h => h)); (focus ((intro w hSw); (try dsimp only at hSw); (first | (go_simp; done) | (go_simp; with_reducible rfl)))); (try simp only [Act.put, List.setIfInBounds_toArray, List.set_cons_zero, List.set_cons_succ]))
                    (refine wpAnyH_take (i := 16) (v := ?_) (by simp only [List.getElem?_toArray, List.getElem?_cons_succ, List.getElem?_cons_zero]; rfl) (by kernel_rfl) (by kernel_rfl) (by kernel_rfl) ?_ (Or.inl ⟨by rfl, ?_⟩) (by assumption) ?_; rotate_left; (focus (exact fun _ _ _ h => h)); (focus ((intro w hSw); (try dsimp only at hSw); (first | (go_simp; done) | (go_simp; with_reducible rfl)))); (try simp only [Act.put, List.setIfInBounds_toArray, List.set_cons_zero, List.set_cons_succ]))
                    (refine wpAnyH_take (i := 17) (v := ?_) (by simp only [List.getElem?_toArray, List.getElem?_cons_succ, List.getElem?_cons_zero]; rfl) (by kernel_rfl) (by kernel_rfl) (by kernel_rfl) ?_ (Or.inl ⟨by rfl, ?_⟩) (by assumption) ?_; rotate_left; (focus (exact fun _ _ _ h => h)); (focus ((intro w hSw); (try dsimp only at hSw); (first | (go_simp; done) | (go_simp; with_reducible rfl)))); (try simp only [Act.put, List.setIfInBounds_toArray, List.set_cons_zero, List.set_cons_succ]))
                    (refine wpAnyH_take (i := 18) (v := ?_) (by simp only [List.getElem?_toArray, List.getElem?_cons_succ, List.getElem?_cons_zero]; rfl) (by kernel_rfl) (by kernel_rfl) (by kernel_rfl) ?_ (Or.inl ⟨by rfl, ?_⟩) (by assumption) ?_; rotate_left; (focus (exact fun _ _ _ h => h)); (focus ((intro w hSw); (try dsimp only at hSw); (first | (go_simp; done) | (go_simp; with_reducible rfl)))); (try simp only [Act.put, List.setIfInBounds_toArray, List.set_cons_zero, List.set_cons_succ]))
                    (refine wpAnyH_take (i := 19) (v := ?_) (by simp only [List.getElem?_toArray, List.getElem?_cons_succ, List.getElem?_cons_zero]; rfl) (by kernel_rfl) (by kernel_rfl) (by kernel_rfl) ?_ (Or.inl ⟨by rfl, ?_⟩) (by assumption) ?_; rotate_left; (focus (exact fun _ _ _ h => h)); (focus ((intro w hSw); (try dsimp only at hSw); (first | (go_simp; done) | (go_simp; with_reducible rfl)))); (try simp only [Act.put, List.setIfInBounds_toArray, List.set_cons_zero, List.set_cons_succ]))
                    (refine wpAnyH_take (i := 20) (v := ?_) (by simp only [List.getElem?_toArray, List.getElem?_cons_succ, List.getElem?_cons_zero]; rfl) (by kernel_rfl) (by kernel_rfl) (by kernel_rfl) ?_ (Or.inl ⟨by rfl, ?_⟩) (by assumption) ?_; rotate_left; (focus (exact fun _ _ _ h => h)); (focus ((intro w hSw); (try dsimp only at hSw); (first | (go_simp; done) | (go_simp; with_reducible rfl)))); (try simp only [Act.put, List.setIfInBounds_toArray, List.set_cons_zero, List.set_cons_succ]))
                    (refine wpAnyH_take (i := 21) (v := ?_) (by simp only [List.getElem?_toArray, List.getElem?_cons_succ, List.getElem?_cons_zero]; rfl) (by kernel_rfl) (by kernel_rfl) (by kernel_rfl) ?_ (Or.inl ⟨by rfl, ?_⟩) (by assumption) ?_; rotate_left; (focus (exact fun _ _ _ h => h)); (focus ((intro w hSw); (try dsimp only at hSw); (first | (go_simp; done) | (go_simp; with_reducible rfl)))); (try simp only [Act.put, List.setIfInBounds_toArray, List.set_cons_zero, List.set_cons_succ]))
                    (refine wpAnyH_take (i := 22) (v := ?_) (by simp only [List.getElem?_toArray, List.getElem?_cons_succ, List.getElem?_cons_zero]; rfl) (by kernel_rfl) (by kernel_rfl) (by kernel_rfl) ?_ (Or.inl ⟨by rfl, ?_⟩) (by assumption) ?_; rotate_left; (focus (exact fun _ _ _ h => h)); (focus ((intro w hSw); (try dsimp only at hSw); (first | (go_simp; done) | (go_simp; with_reducible rfl)))); (try simp only [Act.put, List.setIfInBounds_toArray, List.set_cons_zero, List.set_cons_succ]))
                    (refine wpAnyH_take (i := 23) (v := ?_) (by simp only [List.getElem?_toArray, List.getElem?_cons_succ, List.getElem?_cons_zero]; rfl) (by kernel_rfl) (by kernel_rfl) (by kernel_rfl) ?_ (Or.inl ⟨by rfl, ?_⟩) (by assumption) ?_; rotate_left; (focus (exact fun _ _ _ h => h)); (focus ((intro w hSw); (try dsimp only at hSw); (first | (go_simp; done) | (go_simp; with_reducible rfl)))); (try simp only [Act.put, List.setIfInBounds_toArray, List.set_cons_zero, List.set_cons_succ]))
                    (refine wpAnyH_take (i := 24) (v := ?_) (by simp only [List.getElem?_toArray, List.getElem?_cons_succ, List.getElem?_cons_zero]; rfl) (by kernel_rfl) (by kernel_rfl) (by kernel_rfl) ?_ (Or.inl ⟨by rfl, ?_⟩) (by assumption) ?_; rotate_left; (focus (exact fun _ _ _ h => h)); (focus ((intro w hSw); (try dsimp only at hSw); (first | (go_simp; done) | (go_simp; with_reducible rfl)))); (try simp only [Act.put, List.setIfInBounds_toArray, List.set_cons_zero, List.set_cons_succ]))
                    (refine wpAnyH_take (i := 25) (v := ?_) (by simp only [List.getElem?_toArray, List.getElem?_cons_succ, List.getElem?_cons_zero]; rfl) (by kernel_rfl) (by kernel_rfl) (by kernel_rfl) ?_ (Or.inl ⟨by rfl, ?_⟩) (by assumption) ?_; rotate_left; (focus (exact fun _ _ _ h => h)); (focus ((intro w hSw); (try dsimp only at hSw); (first | (go_simp; done) | (go_simp; with_reducible rfl)))); (try simp only [Act.put, List.setIfInBounds_toArray, List.set_cons_zero, List.set_cons_succ]))
                    refine wpAnyH_ready (rs := [26]) (by kernel_rfl) (by simp) ?_
                    refine AllReadyH.cons (by simp only [List.getElem?_toArray, List.getElem?_cons_succ, List.getElem?_cons_zero]; rfl) (fun K hK => ?_) AllReadyH.nil
                    go_simp
                    refine (HDK.out _ (HI.out.below (binto E.below.drew hbf))).mono ?_
                    rintro e wg ⟨rfl, hbg⟩
                    have hbfg := binto hbf hbg
                    dsimp only
                    refine hK.out _ _ ⟨keep (w := wc.drew) hbfg k0 klt, keep (w := wc.drew) hbfg k1 klt, keep (w := wc.drew) hbfg k2 klt, keep (w := wc.drew) hbfg cx hbc⟩ (fun hHeld3 => ?_)
                    clear hK K hHeld2
                    try simp only [Act.put, List.setIfInBounds_toArray, List.set_cons_zero, List.set_cons_succ]
                    (refine wpAnyH_take (i := 27) (v := ?_) (by simp only [List.getElem?_toArray, List.getElem?_cons_succ, List.getElem?_cons_zero]; rfl) (by kernel_rfl) (by kernel_rfl) (by kernel_rfl) ?_ (Or.inl ⟨by rfl, ?_⟩) (by assumption) ?_; rotate_left; (focus (exact fun _ _ _ h => h)); (focus ((intro w hSw); (try dsimp only at hSw); (first | (go_simp; done) | (go_simp; with_reducible rfl)))); (try simp only [Act.put, List.setIfInBounds_toArray, List.set_cons_zero, List.set_cons_succ]))
                    refine wpAnyH_done (by kernel_rfl) ?_ _
                    have E' : LoEnv w l.length H (.slice a np cp) wg := E.keep ((Below.refl wc.heap.size wc).drew.trans hbfg)
                    have hown' := own_keep HOWN.out ((Below.refl wc.heap.size wc).drew.trans hbfg)
                    clear hHeld3 hbf hbg hbfg E hBw k0 k1 k2 kf klt cx HOWN
                    obtain ⟨k0, k1, k2, kf, klt⟩ := E'.img.d3
                    by_cases hn0 : 0 < n
                    · have hd0 : decide (0 < (n : Int)) = true := by simp; omega
                      have HE1 := Lib.hid (HED.out (xn : Int) ⟨n, by omega, HALL.out.out, fun _ => by rw [HDF.out]; simp, by rw [if_pos ⟨hn0, by omega, HTT.out⟩]; exact HXN.out.symm⟩)
                      go_wp2_with fail
                      refine (HTH.out _ (HT.out.below E'.below)).mono ?_
                      rintro e wh ⟨rfl, hbh⟩
                      have E2 := E'.keep hbh
                      have hown2 := own_keep hown' hbh
                      clear E' hown' hbh k0 k1 k2 kf klt
                      dsimp only
                      have hszX := E2.img.lt
                      go_wp2_with (at_builtin; refine wp_app1 _ rfl _ _ 25 rfl (w.heap.size + 1) 3 (.int .i64 0) 1 8 Try.underlying25 Try.infoInt rfl (by decide) (by decide) _ _ _ rfl (hown2.alloc _) _ [.int .i64 (xn)] rfl rfl (Blk.new _ _ _) (by simp [Value.oneCell']) (by omega) (by simp; omega) ?_; intro v' w4 hown4 hg4)
                      have hbb4 : Below (w.heap.size + 1) wh w4 := ((Below.refl (w.heap.size + 1) wh).alloc (by omega) _).grown hg4 (by simp; omega) (fun j hj => (hown2.lt j hj).1)
                      refine ⟨⟨k + 1, o ++ [(xn : Int)], by go_num, by omega, by simp [hol], HE1.out, ⟨E2.below.trans (hbb4.mono (by omega)), E2.img.keep hbb4 (by omega)⟩, ?_⟩, by simp [intOf]; omega⟩
                      rw [List.map_append]; exact hown4
                    · have hd0 : decide (0 < (n : Int)) = false := by simp; omega
                      have HE1 := Lib.hid (HED.out (-1) ⟨n, by omega, HALL.out.out, fun _ => by rw [HDF.out]; simp, by rw [if_neg (by omega)]⟩)
                      have hszX := E'.img.lt
                      go_wp2_with (at_builtin; refine wp_app1 _ rfl _ _ 25 rfl (w.heap.size + 1) 3 (.int .i64 0) 1 8 Try.underlying25 Try.infoInt rfl (by decide) (by decide) _ _ _ rfl (hown'.alloc _) _ [.int .i64 (-1)] rfl rfl (Blk.new _ _ _) (by simp [Value.oneCell']) (by omega) (by simp; omega) ?_; intro v' w4 hown4 hg4)
                      have hbb4 : Below (w.heap.size + 1) wg w4 := ((Below.refl (w.heap.size + 1) wg).alloc (by omega) _).grown hg4 (by simp; omega) (fun j hj => (hown'.lt j hj).1)
                      refine ⟨⟨k + 1, o ++ [-1], by go_num, by omega, by simp [hol], HE1.out, ⟨E'.below.trans (hbb4.mono (by omega)), E'.img.keep hbb4 (by omega)⟩, ?_⟩, by simp [intOf]; omega⟩
                      rw [List.map_append]; exact hown4
                | false =>
                  rw [show thereB (l.length : Int) H l (bs + n) k = false from htt] at hTH
                  have HTH := Lib.hid hTH
                  have HE1 := Lib.hid (HED.out (-1) ⟨n, by omega, hall.out, fun _ => by rw [htt]; rfl, by rw [if_neg (by rw [htt]; simp)]⟩)
                  clear htt hTH hall
                  go_wp2_with fail
                  refine wp_region_held_drew (S := fun w' => w'.cell? ⟨w.heap.size, 0, none⟩ = some (.int .i64 l.length) ∧ w'.cell? ⟨w.heap.size, 1, none⟩ = some (.int .i64 H) ∧ w'.cell? ⟨w.heap.size, 2, none⟩ = some (.slice a np cp)) (by kernel_rfl) ⟨k0, k1, k2⟩ (fun hHeld => ?_)
                  (refine wpAnyH_take (i := 0) (v := ?_) (by simp only [List.getElem?_toArray, List.getElem?_cons_succ, List.getElem?_cons_zero]; rfl) (by kernel_rfl) (by kernel_rfl) (by kernel_rfl) ?_ (Or.inl ⟨by rfl, ?_⟩) (by assumption) ?_; rotate_left; (focus (exact fun _ _ _ h => h)); (focus ((intro w hSw); (try dsimp only at hSw); (first | (go_simp; done) | (go_simp; with_reducible rfl)))); (try simp only [Act.put, List.setIfInBounds_toArray, List.set_cons_zero, List.set_cons_succ]))
                  (refine wpAnyH_take (i := 1) (v := ?_) (by simp only [List.getElem?_toArray, List.getElem?_cons_succ, List.getElem?_cons_zero]; rfl) (by kernel_rfl) (by kernel_rfl) (by kernel_rfl) ?_ (Or.inl ⟨by rfl, ?_⟩) (by assumption) ?_; rotate_left; (focus (exact fun _ _ _ h => h)); (focus ((intro w hSw); (try dsimp only at hSw); (first | (go_simp; done) | (go_simp; with_reducible rfl)))); (try simp only [Act.put, List.setIfInBounds_toArray, List.set_cons_zero, List.set_cons_succ]))
                  (refine wpAnyH_take (i := 2) (v := ?_) (by simp only [List.getElem?_toArray, List.getElem?_cons_succ, List.getElem?_cons_zero]; rfl) (by kernel_rfl) (by kernel_rfl) (by kernel_rfl) ?_ (Or.inl ⟨by rfl, ?_⟩) (by assumption) ?_; rotate_left; (focus (exact fun _ _ _ h => h)); (focus ((intro w hSw); (try dsimp only at hSw); (first | (go_simp; done) | (go_simp; with_reducible rfl)))); (try simp only [Act.put, List.setIfInBounds_toArray, List.set_cons_zero, List.set_cons_succ]))
                  (refine wpAnyH_take (i := 3) (v := ?_) (by simp only [List.getElem?_toArray, List.getElem?_cons_succ, List.getElem?_cons_zero]; rfl) (by kernel_rfl) (by kernel_rfl) (by kernel_rfl) ?_ (Or.inl ⟨by rfl, ?_⟩) (by assumption) ?_; rotate_left; (focus (exact fun _ _ _ h => h)); (focus ((intro w hSw); (try dsimp only at hSw); (first | (go_simp; done) | (go_simp; with_reducible rfl)))); (try simp only [Act.put, List.setIfInBounds_toArray, List.set_cons_zero, List.set_cons_succ]))
                  (refine wpAnyH_take (i := 4) (v := ?_) (by simp only [List.getElem?_toArray, List.getElem?_cons_succ, List.getElem?_cons_zero]; rfl) (by kernel_rfl) (by kernel_rfl) (by kernel_rfl) ?_ (Or.inl ⟨by rfl, ?_⟩) (by assumption) ?_; rotate_left; (focus (exact fun _ _ _ h => h)); (focus ((intro w hSw); (try dsimp only at hSw); (first | (go_simp; done) | (go_simp; with_reducible rfl)))); (try simp only [Act.put, List.setIfInBounds_toArray, List.set_cons_zero, List.set_cons_succ]))
                  (refine wpAnyH_take (i := 5) (v := ?_) (by simp only [List.getElem?_toArray, List.getElem?_cons_succ, List.getElem?_cons_zero]; rfl) (by kernel_rfl) (by kernel_rfl) (by kernel_rfl) ?_ (Or.inl ⟨by rfl, ?_⟩) (by assumption) ?_; rotate_left; (focus (exact fun _ _ _ h => h)); (focus ((intro w hSw); (try dsimp only at hSw); (first | (go_simp; done) | (go_simp; with_reducible rfl)))); (try simp only [Act.put, List.setIfInBounds_toArray, List.set_cons_zero, List.set_cons_succ]))
                  (refine wpAnyH_take (i := 6) (v := ?_) (by simp only [List.getElem?_toArray, List.getElem?_cons_succ, List.getElem?_cons_zero]; rfl) (by kernel_rfl) (by kernel_rfl) (by kernel_rfl) ?_ (Or.inl ⟨by rfl, ?_⟩) (by assumption) ?_; rotate_left; (focus (exact fun _ _ _ h => h)); (focus ((intro w hSw); (try dsimp only at hSw); (first | (go_simp; done) | (go_simp; with_reducible rfl)))); (try simp only [Act.put, List.setIfInBounds_toArray, List.set_cons_zero, List.set_cons_succ]))
                  (refine wpAnyH_take (i := 7) (v := ?_) (by simp only [List.getElem?_toArray, List.getElem?_cons_succ, List.getElem?_cons_zero]; rfl) (by kernel_rfl) (by kernel_rfl) (by kernel_rfl) ?_ (Or.inl ⟨by rfl, ?_⟩) (by assumption) ?_; rotate_left; (focus (exact fun _ _ _ h => h)); (focus ((intro w hSw); (try dsimp only at hSw); (first | (go_simp; done) | (go_simp; with_reducible rfl)))); (try simp only [Act.put, List.setIfInBounds_toArray, List.set_cons_zero, List.set_cons_succ]))
                  (refine wpAnyH_take (i := 8) (v := ?_) (by simp only [List.getElem?_toArray, List.getElem?_cons_succ, List.getElem?_cons_zero]; rfl) (by kernel_rfl) (by kernel_rfl) (by kernel_rfl) ?_ (Or.inl ⟨by rfl, ?_⟩) (by assumption) ?_; rotate_left; (focus (exact fun _ _ _ h => h)); (focus ((intro w hSw); (try dsimp only at hSw); (first | (go_simp; done) | (go_simp; with_reducible rfl)))); (try simp only [Act.put, List.setIfInBounds_toArray, List.set_cons_zero, List.set_cons_succ]))
                  (refine wpAnyH_take (i := 9) (v := ?_) (by simp only [List.getElem?_toArray, List.getElem?_cons_succ, List.getElem?_cons_zero]; rfl) (by kernel_rfl) (by kernel_rfl) (by kernel_rfl) ?_ (Or.inl ⟨by rfl, ?_⟩) (by assumption) ?_; rotate_left; (focus (exact fun _ _ _ h => h)); (focus ((intro w hSw); (try dsimp only at hSw); (first | (go_simp; done) | (go_simp; with_reducible rfl)))); (try simp only [Act.put, List.setIfInBounds_toArray, List.set_cons_zero, List.set_cons_succ]))
                  (refine wpAnyH_take (i := 10) (v := ?_) (by simp only [List.getElem?_toArray, List.getElem?_cons_succ, List.getElem?_cons_zero]; rfl) (by kernel_rfl) (by kernel_rfl) (by kernel_rfl) ?_ (Or.inl ⟨by rfl, ?_⟩) (by assumption) ?_; rotate_left; (focus (exact fun _ _ _ h => h)); (focus ((intro w hSw); (try dsimp only at hSw); (first | (go_simp; done) | (go_simp; with_reducible rfl)))); (try simp only [Act.put, List.setIfInBounds_toArray, List.set_cons_zero, List.set_cons_succ]))
                  refine wpAnyH_ready (rs := [11]) (by kernel_rfl) (by simp) ?_
                  refine AllReadyH.cons (by simp only [List.getElem?_toArray, List.getElem?_cons_succ, List.getElem?_cons_zero]; rfl) (fun K hK => ?_) AllReadyH.nil
                  go_simp
                  refine (HTH.out _ (HT.out.below E.below.drew)).mono ?_
                  rintro e wf ⟨rfl, hbf⟩
                  dsimp only
                  refine hK.out _ _ ⟨keep (w := wc.drew) hbf k0 klt, keep (w := wc.drew) hbf k1 klt, keep (w := wc.drew) hbf k2 klt⟩ (fun hHeld2 => ?_)
                  clear hK K hHeld
                  try simp only [Act.put, List.setIfInBounds_toArray, List.set_cons_zero, List.set_cons_succ]
                  (refine wpAnyH_take (i := 12) (v := ?_) (by simp only [List.getElem?_toArray, List.getElem?_cons_succ, List.getElem?_cons_zero]; rfl) (by kernel_rfl) (by kernel_rfl) (by kernel_rfl) ?_ (Or.inl ⟨by rfl, ?_⟩) (by assumption) ?_; rotate_left; (focus (exact fun _ _ _ h => h)); (focus ((intro w hSw); (try dsimp only at hSw); (first | (go_simp; done) | (go_simp; with_reducible rfl)))); (try simp only [Act.put, List.setIfInBounds_toArray, List.set_cons_zero, List.set_cons_succ]))
                  (refine wpAnyH_take (i := 13) (v := ?_) (by simp only [List.getElem?_toArray, List.getElem?_cons_succ, List.getElem?_cons_zero]; rfl) (by kernel_rfl) (by kernel_rfl) (by kernel_rfl) ?_ (Or.inl ⟨by rfl, ?_⟩) (by assumption) ?_; rotate_left; (focus (exact fun _ _ _ h => h)); (focus ((intro w hSw); (try dsimp only at hSw); (first | (go_simp; done) | (go_simp; with_reducible rfl)))); (try simp only [Act.put, List.setIfInBounds_toArray, List.set_cons_zero, List.set_cons_succ]))
                  refine wpAnyH_skip (by kernel_rfl) (fun _ _ _ d h => by cases d <;> exact h) [14, 15, 16, 17, 18, 19, 20, 21, 22, 23, 24, 25, 26] _ _ _ _ (by kernel_rfl) (by assumption) ?_
                  simp only [skipL, skipA, skipOne, List.getElem?_toArray, List.getElem?_cons_succ, List.getElem?_cons_zero, Option.bind_some, Act.put, List.setIfInBounds_toArray, List.set_cons_zero, List.set_cons_succ]
                  (refine wpAnyH_take (i := 27) (v := ?_) (by simp only [List.getElem?_toArray, List.getElem?_cons_succ, List.getElem?_cons_zero]; rfl) (by kernel_rfl) (by kernel_rfl) (by kernel_rfl) ?_ (Or.inl ⟨by rfl, ?_⟩) (by assumption) ?_; rotate_left; (focus (exact fun _ _ _ h => h)); (focus ((intro w hSw); (try dsimp only at hSw); (first | (go_simp; done) | (go_simp; with_reducible rfl)))); (try simp only [Act.put, List.setIfInBounds_toArray, List.set_cons_zero, List.set_cons_succ]))
                  refine wpAnyH_done (by kernel_rfl) ?_ _
                  have E' : LoEnv w l.length H (.slice a np cp) wf := E.keep ((Below.refl wc.heap.size wc).drew.trans hbf)
                  have hown' := own_keep HOWN.out ((Below.refl wc.heap.size wc).drew.trans hbf)
                  clear hHeld2 hbf E hBw k0 k1 k2 kf klt HOWN
                  obtain ⟨k0, k1, k2, kf, klt⟩ := E'.img.d3
                  by_cases hn0 : 0 < n
                  · have hd0 : decide (0 < (n : Int)) = true := by simp; omega
                    go_wp2_with fail
                    refine (HTH.out _ (HT.out.below E'.below)).mono ?_
                    rintro e wh ⟨rfl, hbh⟩
                    have E2 := E'.keep hbh
                    have hown2 := own_keep hown' hbh
                    clear E' hown' hbh k0 k1 k2 kf klt
                    dsimp only
                    have hszX := E2.img.lt
                    go_wp2_with (at_builtin; refine wp_app1 _ rfl _ _ 25 rfl (w.heap.size + 1) 3 (.int .i64 0) 1 8 Try.underlying25 Try.infoInt rfl (by decide) (by decide) _ _ _ rfl (hown2.alloc _) _ [.int .i64 (-1)] rfl rfl (Blk.new _ _ _) (by simp [Value.oneCell']) (by omega) (by simp; omega) ?_; intro v' w4 hown4 hg4)
                    have hbb4 : Below (w.heap.size + 1) wh w4 := ((Below.refl (w.heap.size + 1) wh).alloc (by omega) _).grown hg4 (by simp; omega) (fun j hj => (hown2.lt j hj).1)
                    refine ⟨⟨k + 1, o ++ [-1], by go_num, by omega, by simp [hol], HE1.out, ⟨E2.below.trans (hbb4.mono (by omega)), E2.img.keep hbb4 (by omega)⟩, ?_⟩, by simp [intOf]; omega⟩
                    rw [List.map_append]; exact hown4
                  · have hd0 : decide (0 < (n : Int)) = false := by simp; omega
                    have hszX := E'.img.lt
                    go_wp2_with (at_builtin; refine wp_app1 _ rfl _ _ 25 rfl (w.heap.size + 1) 3 (.int .i64 0) 1 8 Try.underlying25 Try.infoInt rfl (by decide) (by decide) _ _ _ rfl (hown'.alloc _) _ [.int .i64 (-1)] rfl rfl (Blk.new _ _ _) (by simp [Value.oneCell']) (by omega) (by simp; omega) ?_; intro v' w4 hown4 hg4)
                    have hbb4 : Below (w.heap.size + 1) wf w4 := ((Below.refl (w.heap.size + 1) wf).alloc (by omega) _).grown hg4 (by simp; omega) (fun j hj => (hown'.lt j hj).1)
                    refine ⟨⟨k + 1, o ++ [-1], by go_num, by omega, by simp [hol], HE1.out, ⟨E'.below.trans (hbb4.mono (by omega)), E'.img.keep hbb4 (by omega)⟩, ?_⟩, by simp [intOf]; omega⟩
                    rw [List.map_append]; exact hown4
              · have hd4 : decide ((n : Int) ≤ 4 * s) = false := by simpa using hn4
                have HE1 := Lib.hid (HED.out (-1) ⟨n, by omega, hall.out, fun _ => by omega, by rw [if_neg (by omega)]⟩)
                have hn0 : decide (0 < (n : Int)) = true := by simp; omega
                clear hall hTH
                go_wp2_with fail
                go_quiet (fail)
                generalize hWq : World.drewN wc _ = X
                have hbq : Below wc.heap.size wc X := by rw [← hWq]; exact below_drewN (Below.refl _ _) _
                have E' := E.keep hbq
                have hown' := own_keep HOWN.out hbq
                clear hWq hbq E hBw k0 k1 k2 kf klt HOWN
                have hszX := E'.img.lt
                go_wp2_with (at_builtin; refine wp_app1 _ rfl _ _ 25 rfl (w.heap.size + 1) 3 (.int .i64 0) 1 8 Try.underlying25 Try.infoInt rfl (by decide) (by decide) _ _ _ rfl (hown'.alloc _) _ [.int .i64 (-1)] rfl rfl (Blk.new _ _ _) (by simp [Value.oneCell']) (by omega) (by simp; omega) ?_; intro v' w4 hown4 hg4)
                have hbb4 : Below (w.heap.size + 1) X w4 := ((Below.refl (w.heap.size + 1) X).alloc (by omega) _).grown hg4 (by simp; omega) (fun j hj => (hown'.lt j hj).1)
                refine ⟨⟨k + 1, o ++ [-1], by go_num, by omega, by simp [hol], HE1.out, ⟨E'.below.trans (hbb4.mono (by omega)), E'.img.keep hbb4 (by omega)⟩, ?_⟩, by simp [intOf]; omega⟩
                rw [List.map_append]; exact hown4
          · obtain rfl : k = N := by omega
            have hEA : EdgesAre l.length H px l s R o := ⟨by rw [hol]; exact HN.out.symm, f, HFT.out, fun j hj => by rw [← HBS.out]; exact hed.out j (by omega)⟩
            have hVO := hEA.ok h2 (by have := HN.out; omega)
            have HEA := Lib.hid hEA
            have hown' := hown
            rw [← hol] at hown'
            have HRD := Lib.hid (own_reads hown')
            have HVO := Lib.hid hVO
            have hBE := Lib.hid E.below
            have hd0 : decide ((k : Int) < (k : Int)) = false := by simp
            clear hEA hed hVO hown' hown E
            go_wp2_with fail
            refine (filled_any _ o wb HVO.out HRD.out).mono ?_
            rintro e w7 ⟨u, rfl, hou, hb7⟩
            have hBf := binto hBE.out hb7
            have hsz := hBE.out.size
            dsimp only
            go_wp2_with fail
            go_ret
            rw [fillF_len] at hou
            exact ⟨o, HEA.out, u, rfl, own_base hou hsz, hBf⟩
      · have hd : (l.length : Int) ≤ (f : Int) := by omega
        clear hgo
        go_wp2_with fail
        go_loopw [11, 12] (fun v x wr => ∃ (k : Nat) (o : List Int), x = .int .i64 k ∧ k ≤ N ∧ o.length = k ∧ Hid (∀ j : Nat, j < k → EdgeIs (tAt l.length H l bs j) (dAt l.length H px l bs j) (4 * s).toNat bs (o.getD j 0)) ∧ LoEnv w l.length H (.slice a np cp) wr ∧ wr.ownsRow (w.heap.size + 1) 3 1 v k (o.map (Value.int .i64))) (fun _ x _ => N - (intOf x).toNat)
        case atStart => exact ⟨0, [], rfl, by omega, rfl, fun j hj => by omega, E, World.ownsRow_nil _ _ _ _⟩
        case round =>
          clear E
          obtain ⟨k, o, rfl, hk, hol, hed, E, hown⟩ := hrel
          obtain ⟨wb, rfl⟩ : ∃ wo : World, wo = wr := ⟨_, rfl⟩
          by_cases hkN : k < N
          · have hdk : decide ((k : Int) < (N : Int)) = true := by simp; omega
            have HED : ∀ v, EdgeIs (tAt l.length H l bs k) (dAt l.length H px l bs k) (4 * s).toNat bs v → Hid (∀ j : Nat, j < k + 1 → EdgeIs (tAt l.length H l bs j) (dAt l.length H px l bs j) (4 * s).toNat bs ((o ++ [v]).getD j 0)) := fun v hv j hj => by
              rcases Nat.lt_or_ge j k with g' | g'
              · have := hed.out j g'
                simpa [List.getD, List.getElem?_append_left (show j < o.length by omega)] using this
              · obtain rfl : j = k := by omega
                simpa [List.getD, ← hol] using hol ▸ hv
            have HED := Lib.hid HED
            clear hed
            go_wp2_with fail
            go_loopw [13] (fun x wr => ∃ n : Nat, x = .int .i64 n ∧ (n : Int) ≤ 4 * s + 1 ∧ Hid (∀ m, m < n → tAt l.length H l bs k m = true ∧ dAt l.length H px l bs k m = true) ∧ LoEnv w l.length H (.slice a np cp) wr ∧ Below wb.heap.size wb wr) (fun x _ => (4 * s + 1).toNat - (intOf x).toNat)
            case atStart => exact ⟨0, rfl, by omega, fun m hm => by omega, E, Below.refl _ _⟩
            case round =>
              clear E
              obtain ⟨n, rfl, hn, hall, E, hBw⟩ := hrel
              obtain ⟨wc, rfl⟩ : ∃ wo : World, wo = wr := ⟨_, rfl⟩
              have hwx : IntKind.i64.wrap (bs + (n : Int)) = bs + (n : Int) := IntWalk.i64_in _ (by omega)
              obtain ⟨k0, k1, k2, kf, klt⟩ := E.img.d3
              have HOWN := Lib.hid (own_keep hown hBw)
              have hszc := E.img.lt
              have hTH := fun wz h => there_any l.length H (.slice a np cp) (.slice (some ⟨b, off, none⟩) l.length cap) l (bs + n) k wz h rfl h2 HOK.out ⟨by omega, by omega⟩
              clear hown
              by_cases hn4 : (n : Int) ≤ 4 * s
              · have hd4 : decide ((n : Int) ≤ 4 * s) = true := by simpa using hn4
                cases htt : tAt l.length H l bs k n with
                | true =>
                  rw [show thereB (l.length : Int) H l (bs + n) k = true from htt] at hTH
                  have htt' : thereB (l.length : Int) H l (bs + n) k = true := htt
                  simp only [thereB, inB, Bool.and_eq_true, decide_eq_true_eq] at htt'
                  obtain ⟨⟨⟨g1, g2⟩, g3⟩, g4⟩ := htt'
                  obtain ⟨xn, hxn⟩ : ∃ xn : Nat, bs + (n : Int) = xn := ⟨(bs + n).toNat, by omega⟩
                  have hxl : xn < l.length := by omega
                  have hxl2 : (xn : Int) < (l.length : Int) := by omega
                  have cx := keep E.below (HC.out xn _ (getD_some (d := 0) hxl)) hb
                  obtain ⟨hok1, hok2⟩ := listOk_get HOK.out hxl
                  rw [hxn, Int.toNat_natCast] at g3 g4
                  have hdd : dAt l.length H px l bs k n = darkB l.length H px xn (l.getD xn 0 + k) := by
                    simp only [dAt, darkB]; rw [hxn, Int.toNat_natCast]
                  obtain ⟨tx, htx⟩ : ∃ tx, tx = l.getD xn 0 := ⟨_, rfl⟩
                  rw [← htx] at cx g3 g4 hok1 hok2 hdd
                  have hwt : IntKind.i64.wrap (tx + (k : Int)) = tx + (k : Int) := IntWalk.i64_in _ (by omega)
                  rw [hxn] at hTH
                  replace hwx : IntKind.i64.wrap (bs + (n : Int)) = (xn : Int) := by rw [hwx, hxn]
                  have hbc : b < wc.heap.size := Nat.lt_of_lt_of_le hb E.below.size
                  have HTH := Lib.hid hTH
                  have HXN := Lib.hid hxn
                  have HTT := Lib.hid htt
                  clear hTH htt htx hxn
                  cases hdk : darkB l.length H px xn (tx + k) with
                  | true =>
                    have hall' : ∀ m, m < n + 1 → tAt l.length H l bs k m = true ∧ dAt l.length H px l bs k m = true := fun m hm => by
                      rcases Nat.lt_or_eq_of_le (Nat.le_of_lt_succ hm) with g | rfl
                      · exact hall.out m g
                      · exact ⟨HTT.out, by rw [hdd]; exact hdk⟩
                    have HALL := Lib.hid hall'
                    have HDK := Lib.hid (fun wz hz => dark_is (pv := .slice a np cp) hdk (w := wz) hz)
                    clear hall hall' hdd hdk
                    go_wp2_with fail
                    refine wp_region_held_drew (S := fun w' => w'.cell? ⟨w.heap.size, 0, none⟩ = some (.int .i64 l.length) ∧ w'.cell? ⟨w.heap.size, 1, none⟩ = some (.int .i64 H) ∧ w'.cell? ⟨w.heap.size, 2, none⟩ = some (.slice a np cp) ∧ w'.cell? ⟨b, off + xn, none⟩ = some (.int .i64 tx)) (by kernel_rfl) ⟨k0, k1, k2, cx⟩ (fun hHeld => ?_)
                    (refine wpAnyH_take (i := 0) (v := ?_) (by simp only [List.getElem?_toArray, List.getElem?_cons_succ, List.getElem?_cons_zero]; rfl) (by kernel_rfl) (by kernel_rfl) (by kernel_rfl) ?_ (Or.inl ⟨by rfl, ?_⟩) (by assumption) ?_; rotate_left; (focus (exact fun _ _ _ h => h)); (focus ((intro w hSw); (try dsimp only at hSw); (first | (go_simp; done) | (go_simp; with_reducible rfl)))); (try simp only [Act.put, List.setIfInBounds_toArray, List.set_cons_zero, List.set_cons_succ]))
                    (refine wpAnyH_take (i := 1) (v := ?_) (by simp only [List.getElem?_toArray, List.getElem?_cons_succ, List.getElem?_cons_zero]; rfl) (by kernel_rfl) (by kernel_rfl) (by kernel_rfl) ?_ (Or.inl ⟨by rfl, ?_⟩) (by assumption) ?_; rotate_left; (focus (exact fun _ _ _ h => h)); (focus ((intro w hSw); (try dsimp only at hSw); (first | (go_simp; done) | (go_simp; with_reducible rfl)))); (try simp only [Act.put, List.setIfInBounds_toArray, List.set_cons_zero, List.set_cons_succ]))
                    (refine wpAnyH_take (i := 2) (v := ?_) (by simp only [List.getElem?_toArray, List.getElem?_cons_succ, List.getElem?_cons_zero]; rfl) (by kernel_rfl) (by kernel_rfl) (by kernel_rfl) ?_ (Or.inl ⟨by rfl, ?_⟩) (by assumption) ?_; rotate_left; (focus (exact fun _ _ _ h => h)); (focus ((intro w hSw); (try dsimp only at hSw); (first | (go_simp; done) | (go_simp; with_reducible rfl)))); (try simp only [Act.put, List.setIfInBounds_toArray, List.set_cons_zero, List.set_cons_succ]))
                    (refine wpAnyH_take (i := 3) (v := ?_) (by simp only [List.getElem?_toArray, List.getElem?_cons_succ, List.getElem?_cons_zero]; rfl) (by kernel_rfl) (by kernel_rfl) (by kernel_rfl) ?_ (Or.inl ⟨by rfl, ?_⟩) (by assumption) ?_; rotate_left; (focus (exact fun _ _ _ h => h)); (focus ((intro w hSw); (try dsimp only at hSw); (first | (go_simp; done) | (go_simp; with_reducible rfl)))); (try simp only [Act.put, List.setIfInBounds_toArray, List.set_cons_zero, List.set_cons_succ]))
                    (refine wpAnyH_take (i := 4) (v := ?_) (by simp only [List.getElem?_toArray, List.getElem?_cons_succ, List.getElem?_cons_zero]; rfl) (by kernel_rfl) (by kernel_rfl) (by kernel_rfl) ?_ (Or.inl ⟨by rfl, ?_⟩) (by assumption) ?_; rotate_left; (focus (exact fun _ _ _ h => h)); (focus ((intro w hSw); (try dsimp only at hSw); (first | (go_simp; done) | (go_simp; with_reducible rfl)))); (try simp only [Act.put, List.setIfInBounds_toArray, List.set_cons_zero, List.set_cons_succ]))
                    (refine wpAnyH_take (i := 5) (v := ?_) (by simp only [List.getElem?_toArray, List.getElem?_cons_succ, List.getElem?_cons_zero]; rfl) (by kernel_rfl) (by kernel_rfl) (by kernel_rfl) ?_ (Or.inl ⟨by rfl, ?_⟩) (by assumption) ?_; rotate_left; (focus (exact fun _ _ _ h => h)); (focus ((intro w hSw); (try dsimp only at hSw); (first | (go_simp; done) | (go_simp; with_reducible rfl)))); (try simp only [Act.put, List.setIfInBounds_toArray, List.set_cons_zero, List.set_cons_succ]))
                    (refine wpAnyH_take (i := 6) (v := ?_) (by simp only [List.getElem?_toArray, List.getElem?_cons_succ, List.getElem?_cons_zero]; rfl) (by kernel_rfl) (by kernel_rfl) (by kernel_rfl) ?_ (Or.inl ⟨by rfl, ?_⟩) (by assumption) ?_; rotate_left; (focus (exact fun _ _ _ h => h)); (focus ((intro w hSw); (try dsimp only at hSw); (first | (go_simp; done) | (go_simp; with_reducible rfl)))); (try simp only [Act.put, List.setIfInBounds_toArray, List.set_cons_zero, List.set_cons_succ]))
                    (refine wpAnyH_take (i := 7) (v := ?_) (by simp only [List.getElem?_toArray, List.getElem?_cons_succ, List.getElem?_cons_zero]; rfl) (by kernel_rfl) (by kernel_rfl) (by kernel_rfl) ?_ (Or.inl ⟨by rfl, ?_⟩) (by assumption) ?_; rotate_left; (focus (exact fun _ _ _ h => h)); (focus ((intro w hSw); (try dsimp only at hSw); (first | (go_simp; done) | (go_simp; with_reducible rfl)))); (try simp only [Act.put, List.setIfInBounds_toArray, List.set_cons_zero, List.set_cons_succ]))
                    (refine wpAnyH_take (i := 8) (v := ?_) (by simp only [List.getElem?_toArray, List.getElem?_cons_succ, List.getElem?_cons_zero]; rfl) (by kernel_rfl) (by kernel_rfl) (by kernel_rfl) ?_ (Or.inl ⟨by rfl, ?_⟩) (by assumption) ?_; rotate_left; (focus (exact fun _ _ _ h => h)); (focus ((intro w hSw); (try dsimp only at hSw); (first | (go_simp; done) | (go_simp; with_reducible rfl)))); (try simp only [Act.put, List.setIfInBounds_toArray, List.set_cons_zero, List.set_cons_succ]))
                    (refine wpAnyH_take (i := 9) (v := ?_) (by simp only [List.getElem?_toArray, List.getElem?_cons_succ, List.getElem?_cons_zero]; rfl) (by kernel_rfl) (by kernel_rfl) (by kernel_rfl) ?_ (Or.inl ⟨by rfl, ?_⟩) (by assumption) ?_; rotate_left; (focus (exact fun _ _ _ h => h)); (focus ((intro w hSw); (try dsimp only at hSw); (first | (go_simp; done) | (go_simp; with_reducible rfl)))); (try simp only [Act.put, List.setIfInBounds_toArray, List.set_cons_zero, List.set_cons_succ]))
                    (refine wpAnyH_take (i := 10) (v := ?_) (by simp only [List.getElem?_toArray, List.getElem?_cons_succ, List.getElem?_cons_zero]; rfl) (by kernel_rfl) (by kernel_rfl) (by kernel_rfl) ?_ (Or.inl ⟨by rfl, ?_⟩) (by assumption) ?_; rotate_left; (focus (exact fun _ _ _ h => h)); (focus ((intro w hSw); (try dsimp only at hSw); (first | (go_simp; done) | (go_simp; with_reducible rfl)))); (try simp only [Act.put, List.setIfInBounds_toArray, List.set_cons_zero, List.set_cons_succ]))
                    refine wpAnyH_ready (rs := [11]) (by kernel_rfl) (by simp) ?_
                    refine AllReadyH.cons (by simp only [List.getElem?_toArray, List.getElem?_cons_succ, List.getElem?_cons_zero]; rfl) (fun K hK => ?_) AllReadyH.nil
                    go_simp
                    refine (HTH.out _ (HT.out.below E.below.drew)).mono ?_
                    rintro e wf ⟨rfl, hbf⟩
                    dsimp only
                    refine hK.out _ _ ⟨keep (w := wc.drew) hbf k0 klt, keep (w := wc.drew) hbf k1 klt, keep (w := wc.drew) hbf k2 klt, keep (w := wc.drew) hbf cx hbc⟩ (fun hHeld2 => ?_)
                    clear hK K hHeld
                    try simp only [Act.put, List.setIfInBounds_toArray, List.set_cons_zero, List.set_cons_succ]
                    (refine wpAnyH_take (i := 12) (v := ?_) (by simp only [List.getElem?_toArray, List.getElem?_cons_succ, List.getElem?_cons_zero]; rfl) (by kernel_rfl) (by kernel_rfl) (by kernel_rfl) ?_ (Or.inl ⟨by rfl, ?_⟩) (by assumption) ?_; rotate_left; (focus (exact fun _ _ _ h => h)); (focus ((intro w hSw); (try dsimp only at hSw); (first | (go_simp; done) | (go_simp; with_reducible rfl)))); (try simp only [Act.put, List.setIfInBounds_toArray, List.set_cons_zero, List.set_cons_succ]))
                    (refine wpAnyH_take (i := 13) (v := ?_) (by simp only [List.getElem?_toArray, List.getElem?_cons_succ, List.getElem?_cons_zero]; rfl) (by kernel_rfl) (by kernel_rfl) (by kernel_rfl) ?_ (Or.inl ⟨by rfl, ?_⟩) (by assumption) ?_; rotate_left; (focus (exact fun _ _ _ h => h)); (focus ((intro w hSw); (try dsimp only at hSw); (first | (go_simp; done) | (go_simp; with_reducible rfl)))); (try simp only [Act.put, List.setIfInBounds_toArray, List.set_cons_zero, List.set_cons_succ]))
                    (refine wpAnyH_take (i := 14) (v := ?_) (by simp only [List.getElem?_toArray, List.getElem?_cons_succ, List.getElem?_cons_zero]; rfl) (by kernel_rfl) (by kernel_rfl) (by kernel_rfl) ?_ (Or.inl ⟨by rfl, ?_⟩) (by assumption) ?_; rotate_left; (focus (exact fun _ _ _ h => h)); (focus ((intro w hSw); (try dsimp only at hSw); (first | (go_simp; done) | (go_simp; with_reducible rfl)))); (try simp only [Act.put, List.setIfInBounds_toArray, List.set_cons_zero, List.set_cons_succ]))
                    (refine wpAnyH_take (i := 15) (v := ?_) (by simp only [List.getElem?_toArray, List.getElem?_cons_succ, List.getElem?_cons_zero]; rfl) (by kernel_rfl) (by kernel_rfl) (by kernel_rfl) ?_ (Or.inl ⟨by rfl, ?_⟩) (by assumption) ?_; rotate_left; (focus (exact fun _ _ _ h => h)); (focus ((intro w hSw); (try dsimp only at hSw); (first | (go_simp; done) | (go_simp; with_reducible rfl)))); (try simp only [Act.put, List.setIfInBounds_toArray, List.set_cons_zero, List.set_cons_succ]))
                    (refine wpAnyH_take (i := 16) (v := ?_) (by simp only [List.getElem?_toArray, List.getElem?_cons_succ, List.getElem?_cons_zero]; rfl) (by kernel_rfl) (by kernel_rfl) (by kernel_rfl) ?_ (Or.inl ⟨by rfl, ?_⟩) (by assumption) ?_; rotate_left; (focus (exact fun _ _ _ h => h)); (focus ((intro w hSw); (try dsimp only at hSw); (first | (go_simp; done) | (go_simp; with_reducible rfl)))); (try simp only [Act.put, List.setIfInBounds_toArray, List.set_cons_zero, List.set_cons_succ]))
                    (refine wpAnyH_take (i := 17) (v := ?_) (by simp only [List.getElem?_toArray, List.getElem?_cons_succ, List.getElem?_cons_zero]; rfl) (by kernel_rfl) (by kernel_rfl) (by kernel_rfl) ?_ (Or.inl ⟨by rfl, ?_⟩) (by assumption) ?_; rotate_left; (focus (exact fun _ _ _ h => h)); (focus ((intro w hSw); (try dsimp only at hSw); (first | (go_simp; done) | (go_simp; with_reducible rfl)))); (try simp only [Act.put, List.setIfInBounds_toArray, List.set_cons_zero, List.set_cons_succ]))
                    (refine wpAnyH_take (i := 18) (v := ?_) (by simp only [List.getElem?_toArray, List.getElem?_cons_succ, List.getElem?_cons_zero]; rfl) (by kernel_rfl) (by kernel_rfl) (by kernel_rfl) ?_ (Or.inl ⟨by rfl, ?_⟩) (by assumption) ?_; rotate_left; (focus (exact fun _ _ _ h => h)); (focus ((intro w hSw); (try dsimp only at hSw); (first | (go_simp; done) | (go_simp; with_reducible rfl)))); (try simp only [Act.put, List.setIfInBounds_toArray, List.set_cons_zero, List.set_cons_succ]))
                    (refine wpAnyH_take (i := 19) (v := ?_) (by simp only [List.getElem?_toArray, List.getElem?_cons_succ, List.getElem?_cons_zero]; rfl) (by kernel_rfl) (by kernel_rfl) (by kernel_rfl) ?_ (Or.inl ⟨by rfl, ?_⟩) (by assumption) ?_; rotate_left; (focus (exact fun _ _ _ h => h)); (focus ((intro w hSw); (try dsimp only at hSw); (first | (go_simp; done) | (go_simp; with_reducible rfl)))); (try simp only [Act.put, List.setIfInBounds_toArray, List.set_cons_zero, List.set_cons_succ]))
                    (refine wpAnyH_take (i := 20) (v := ?_) (by simp only [List.getElem?_toArray, List.getElem?_cons_succ, List.getElem?_cons_zero]; rfl) (by kernel_rfl) (by kernel_rfl) (by kernel_rfl) ?_ (Or.inl ⟨by rfl, ?_⟩) (by assumption) ?_; rotate_left; (focus (exact fun _ _ _ h => h)); (focus ((intro w hSw); (try dsimp only at hSw); (first | (go_simp; done) | (go_simp; with_reducible rfl)))); (try simp only [Act.put, List.setIfInBounds_toArray, List.set_cons_zero, List.set_cons_succ]))
                    (refine wpAnyH_take (i := 21) (v := ?_) (by simp only [List.getElem?_toArray, List.getElem?_cons_succ, List.getElem?_cons_zero]; rfl) (by kernel_rfl) (by kernel_rfl) (by kernel_rfl) ?_ (Or.inl ⟨by rfl, ?_⟩) (by assumption) ?_; rotate_left; (focus (exact fun _ _ _ h => h)); (focus ((intro w hSw); (try dsimp only at hSw); (first | (go_simp; done) | (go_simp; with_reducible rfl)))); (try simp only [Act.put, List.setIfInBounds_toArray, List.set_cons_zero, List.set_cons_succ]))
                    (refine wpAnyH_take (i := 22) (v := ?_) (by simp only [List.getElem?_toArray, List.getElem?_cons_succ, List.getElem?_cons_zero]; rfl) (by kernel_rfl) (by kernel_rfl) (by kernel_rfl) ?_ (Or.inl ⟨by rfl, ?_⟩) (by assumption) ?_; rotate_left; (focus (exact fun _ _ _ h => h)); (focus ((intro w hSw); (try dsimp only at hSw); (first | (go_simp; done) | (go_simp; with_reducible rfl)))); (try simp only [Act.put, List.setIfInBounds_toArray, List.set_cons_zero, List.set_cons_succ]))
                    (refine wpAnyH_take (i := 23) (v := ?_) (by simp only [List.getElem?_toArray, List.getElem?_cons_succ, List.getElem?_cons_zero]; rfl) (by kernel_rfl) (by kernel_rfl) (by kernel_rfl) ?_ (Or.inl ⟨by rfl, ?_⟩) (by assumption) ?_; rotate_left; (focus (exact fun _ _ _ h => h)); (focus ((intro w hSw); (try dsimp only at hSw); (first | (go_simp; done) | (go_simp; with_reducible rfl)))); (try simp only [Act.put, List.setIfInBounds_toArray, List.set_cons_zero, List.set_cons_succ]))
                    (refine wpAnyH_take (i := 24) (v := ?_) (by simp only [List.getElem?_toArray, List.getElem?_cons_succ, List.getElem?_cons_zero]; rfl) (by kernel_rfl) (by kernel_rfl) (by kernel_rfl) ?_ (Or.inl ⟨by rfl, ?_⟩) (by assumption) ?_; rotate_left; (focus (exact fun _ _ _ h => h)); (focus ((intro w hSw); (try dsimp only at hSw); (first | (go_simp; done) | (go_simp; with_reducible rfl)))); (try simp only [Act.put, List.setIfInBounds_toArray, List.set_cons_zero, List.set_cons_succ]))
                    (refine wpAnyH_take (i := 25) (v := ?_) (by simp only [List.getElem?_toArray, List.getElem?_cons_succ, List.getElem?_cons_zero]; rfl) (by kernel_rfl) (by kernel_rfl) (by kernel_rfl) ?_ (Or.inl ⟨by rfl, ?_⟩) (by assumption) ?_; rotate_left; (focus (exact fun _ _ _ h => h)); (focus ((intro w hSw); (try dsimp only at hSw); (first | (go_simp; done) | (go_simp; with_reducible rfl)))); (try simp only [Act.put, List.setIfInBounds_toArray, List.set_cons_zero, List.set_cons_succ]))
                    refine wpAnyH_ready (rs := [26]) (by kernel_rfl) (by simp) ?_
                    refine AllReadyH.cons (by simp only [List.getElem?_toArray, List.getElem?_cons_succ, List.getElem?_cons_zero]; rfl) (fun K hK => ?_) AllReadyH.nil
                    go_simp
                    refine (HDK.out _ (HI.out.below (binto E.below.drew hbf))).mono ?_
                    rintro e wg ⟨rfl, hbg⟩
                    have hbfg := binto hbf hbg
                    dsimp only
                    refine hK.out _ _ ⟨keep (w := wc.drew) hbfg k0 klt, keep (w := wc.drew) hbfg k1 klt, keep (w := wc.drew) hbfg k2 klt, keep (w := wc.drew) hbfg cx hbc⟩ (fun hHeld3 => ?_)
                    clear hK K hHeld2
                    try simp only [Act.put, List.setIfInBounds_toArray, List.set_cons_zero, List.set_cons_succ]
                    (refine wpAnyH_take (i := 27) (v := ?_) (by simp only [List.getElem?_toArray, List.getElem?_cons_succ, List.getElem?_cons_zero]; rfl) (by kernel_rfl) (by kernel_rfl) (by kernel_rfl) ?_ (Or.inl ⟨by rfl, ?_⟩) (by assumption) ?_; rotate_left; (focus (exact fun _ _ _ h => h)); (focus ((intro w hSw); (try dsimp only at hSw); (first | (go_simp; done) | (go_simp; with_reducible rfl)))); (try simp only [Act.put, List.setIfInBounds_toArray, List.set_cons_zero, List.set_cons_succ]))
                    refine wpAnyH_done (by kernel_rfl) ?_ _
                    have E' : LoEnv w l.length H (.slice a np cp) wg := E.keep ((Below.refl wc.heap.size wc).drew.trans hbfg)
                    have hBw' : Below wb.heap.size wb wg := binto hBw ((Below.refl wc.heap.size wc).drew.trans hbfg)
                    clear hHeld3 hbf hbg hbfg
                    go_wp2_with fail
                    go_roundw
                    case rel => exact ⟨n + 1, by go_num, by omega, HALL, E', hBw'⟩
                    case measure => simp [intOf]; omega
                  | false =>
                    have HDK := Lib.hid (fun wz hz => dark_is (pv := .slice a np cp) hdk (w := wz) hz)
                    have hdf : dAt l.length H px l bs k n = false := by rw [hdd]; exact hdk
                    have HDF := Lib.hid hdf
                    have HALL := Lib.hid hall
                    clear hall hdd hdk hdf
                    go_wp2_with fail
                    refine wp_region_held_drew (S := fun w' => w'.cell? ⟨w.heap.size, 0, none⟩ = some (.int .i64 l.length) ∧ w'.cell? ⟨w.heap.size, 1, none⟩ = some (.int .i64 H) ∧ w'.cell? ⟨w.heap.size, 2, none⟩ = some (.slice a np cp) ∧ w'.cell? ⟨b, off + xn, none⟩ = some (.int .i64 tx)) (by kernel_rfl) ⟨k0, k1, k2, cx⟩ (fun hHeld => ?_)
                    (refine wpAnyH_take (i := 0) (v := ?_) (by simp only [List.getElem?_toArray, List.getElem?_cons_succ, List.getElem?_cons_zero]; rfl) (by kernel_rfl) (by kernel_rfl) (by kernel_rfl) ?_ (Or.inl ⟨by rfl, ?_⟩) (by assumption) ?_; rotate_left; (focus (exact fun _ _ _ h => h)); (focus ((intro w hSw); (try dsimp only at hSw); (first | (go_simp; done) | (go_simp; with_reducible rfl)))); (try simp only [Act.put, List.setIfInBounds_toArray, List.set_cons_zero, List.set_cons_succ]))
                    (refine wpAnyH_take (i := 1) (v := ?_) (by simp only [List.getElem?_toArray, List.getElem?_cons_succ, List.getElem?_cons_zero]; rfl) (by kernel_rfl) (by kernel_rfl) (by kernel_rfl) ?_ (Or.inl ⟨by rfl, ?_⟩) (by assumption) ?_; rotate_left; (focus (exact fun _ _ _ h => h)); (focus ((intro w hSw); (try dsimp only at hSw); (first | (go_simp; done) | (go_simp; with_reducible rfl)))); (try simp only [Act.put, List.setIfInBounds_toArray, List.set_cons_zero, List.set_cons_succ]))
                    (refine wpAnyH_take (i := 2) (v := ?_) (by simp only [List.getElem?_toArray, List.getElem?_cons_succ, List.getElem?_cons_zero]; rfl) (by kernel_rfl) (by kernel_rfl) (by kernel_rfl) ?_ (Or.inl ⟨by rfl, ?_⟩) (by assumption) ?_; rotate_left; (focus (exact fun _ _ _ h => h)); (focus ((intro w hSw); (try dsimp only at hSw); (first | (go_simp; done) | (go_simp; with_reducible rfl)))); (try simp only [Act.put, List.setIfInBounds_toArray, List.set_cons_zero, List.set_cons_succ]))
                    (refine wpAnyH_take (i := 3) (v := ?_) (by simp only [List.getElem?_toArray, List.getElem?_cons_succ, List.getElem?_cons_zero]; rfl) (by kernel_rfl) (by kernel_rfl) (by kernel_rfl) ?_ (Or.inl ⟨by rfl, ?_⟩) (by assumption) ?_; rotate_left; (focus (exact fun _ _ _ h => h)); (focus ((intro w hSw); (try dsimp only at hSw); (first | (go_simp; done) | (go_simp; with_reducible rfl)))); (try simp only [Act.put, List.setIfInBounds_toArray, List.set_cons_zero, List.set_cons_succ]))
                    (refine wpAnyH_take (i := 4) (v := ?_) (by simp only [List.getElem?_toArray, List.getElem?_cons_succ, List.getElem?_cons_zero]; rfl) (by kernel_rfl) (by kernel_rfl) (by kernel_rfl) ?_ (Or.inl ⟨by rfl, ?_⟩) (by assumption) ?_; rotate_left; (focus (exact fun _ _ _ h => h)); (focus ((intro w hSw); (try dsimp only at hSw); (first | (go_simp; done) | (go_simp; with_reducible rfl)))); (try simp only [Act.put, List.setIfInBounds_toArray, List.set_cons_zero, List.set_cons_succ]))
                    (refine wpAnyH_take (i := 5) (v := ?_) (by simp only [List.getElem?_toArray, List.getElem?_cons_succ, List.getElem?_cons_zero]; rfl) (by kernel_rfl) (by kernel_rfl) (by kernel_rfl) ?_ (Or.inl ⟨by rfl, ?_⟩) (by assumption) ?_; rotate_left; (focus (exact fun _ _ _ h => h)); (focus ((intro w hSw); (try dsimp only at hSw); (first | (go_simp; done) | (go_simp; with_reducible rfl)))); (try simp only [Act.put, List.setIfInBounds_toArray, List.set_cons_zero, List.set_cons_succ]))
                    (refine wpAnyH_take (i := 6) (v := ?_) (by simp only [List.getElem?_toArray, List.getElem?_cons_succ, List.getElem?_cons_zero]; rfl) (by kernel_rfl) (by kernel_rfl) (by kernel_rfl) ?_ (Or.inl ⟨by rfl, ?_⟩) (by assumption) ?_; rotate_left; (focus (exact fun _ _ _ h => h)); (focus ((intro w hSw); (try dsimp only at hSw); (first | (go_simp; done) | (go_simp; with_reducible rfl)))); (try simp only [Act.put, List.setIfInBounds_toArray, List.set_cons_zero, List.set_cons_succ]))
                    (refine wpAnyH_take (i := 7) (v := ?_) (by simp only [List.getElem?_toArray, List.getElem?_cons_succ, List.getElem?_cons_zero]; rfl) (by kernel_rfl) (by kernel_rfl) (by kernel_rfl) ?_ (Or.inl ⟨by rfl, ?_⟩) (by assumption) ?_; rotate_left; (focus (exact fun _ _ _ h => h)); (focus ((intro w hSw); (try dsimp only at hSw); (first | (go_simp; done) | (go_simp; with_reducible rfl)))); (try simp only [Act.put, List.setIfInBounds_toArray, List.set_cons_zero, List.set_cons_succ]))
                    (refine wpAnyH_take (i := 8) (v := ?_) (by simp only [List.getElem?_toArray, List.getElem?_cons_succ, List.getElem?_cons_zero]; rfl) (by kernel_rfl) (by kernel_rfl) (by kernel_rfl) ?_ (Or.inl ⟨by rfl, ?_⟩) (by assumption) ?_; rotate_left; (focus (exact fun _ _ _ h => h)); (focus ((intro w hSw); (try dsimp only at hSw); (first | (go_simp; done) | (go_simp; with_reducible rfl)))); (try simp only [Act.put, List.setIfInBounds_toArray, List.set_cons_zero, List.set_cons_succ]))
                    (refine wpAnyH_take (i := 9) (v := ?_) (by simp only [List.getElem?_toArray, List.getElem?_cons_succ, List.getElem?_cons_zero]; rfl) (by kernel_rfl) (by kernel_rfl) (by kernel_rfl) ?_ (Or.inl ⟨by rfl, ?_⟩) (by assumption) ?_; rotate_left; (focus (exact fun _ _ _ h => h)); (focus ((intro w hSw); (try dsimp only at hSw); (first | (go_simp; done) | (go_simp; with_reducible rfl)))); (try simp only [Act.put, List.setIfInBounds_toArray, List.set_cons_zero, List.set_cons_succ]))
                    (refine wpAnyH_take (i := 10) (v := ?_) (by simp only [List.getElem?_toArray, List.getElem?_cons_succ, List.getElem?_cons_zero]; rfl) (by kernel_rfl) (by kernel_rfl) (by kernel_rfl) ?_ (Or.inl ⟨by rfl, ?_⟩) (by assumption) ?_; rotate_left; (focus (exact fun _ _ _ h => h)); (focus ((intro w hSw); (try dsimp only at hSw); (first | (go_simp; done) | (go_simp; with_reducible rfl)))); (try simp only [Act.put, List.setIfInBounds_toArray, List.set_cons_zero, List.set_cons_succ]))
                    refine wpAnyH_ready (rs := [11]) (by kernel_rfl) (by simp) ?_
                    refine AllReadyH.cons (by simp only [List.getElem?_toArray, List.getElem?_cons_succ, List.getElem?_cons_zero]; rfl) (fun K hK => ?_) AllReadyH.nil
                    go_simp
                    refine (HTH.out _ (HT.out.below E.below.drew)).mono ?_
                    rintro e wf ⟨rfl, hbf⟩
                    dsimp only
                    refine hK.out _ _ ⟨keep (w := wc.drew) hbf k0 klt, keep (w := wc.drew) hbf k1 klt, keep (w := wc.drew) hbf k2 klt, keep (w := wc.drew) hbf cx hbc⟩ (fun hHeld2 => ?_)
                    clear hK K hHeld
                    try simp only [Act.put, List.setIfInBounds_toArray, List.set_cons_zero, List.set_cons_succ]
                    (refine wpAnyH_take (i := 12) (v := ?_) (by simp only [List.getElem?_toArray, List.getElem?_cons_succ, List.getElem?_cons_zero]; rfl) (by kernel_rfl) (by kernel_rfl) (by kernel_rfl) ?_ (Or.inl ⟨by rfl, ?_⟩) (by assumption) ?_; rotate_left; (focus (exact fun _ _ _ h => h)); (focus ((intro w hSw); (try dsimp only at hSw); (first | (go_simp; done) | (go_simp; with_reducible rfl)))); (try simp only [Act.put, List.setIfInBounds_toArray, List.set_cons_zero, List.set_cons_succ]))
                    (refine wpAnyH_take (i := 13) (v := ?_) (by simp only [List.getElem?_toArray, List.getElem?_cons_succ, List.getElem?_cons_zero]; rfl) (by kernel_rfl) (by kernel_rfl) (by kernel_rfl) ?_ (Or.inl ⟨by rfl, ?_⟩) (by assumption) ?_; rotate_left; (focus (exact fun _ _ _ h => h)); (focus ((intro w hSw); (try dsimp only at hSw); (first | (go_simp; done) | (go_simp; with_reducible rfl)))); (try simp only [Act.put, List.setIfInBounds_toArray, List.set_cons_zero, List.set_cons_succ]))
                    (refine wpAnyH_take (i := 14) (v := ?_) (by simp only [List.getElem?_toArray, List.getElem?_cons_succ, List.getElem?_cons_zero]; rfl) (by kernel_rfl) (by kernel_rfl) (by kernel_rfl) ?_ (Or.inl ⟨by rfl, ?_⟩) (by assumption) ?_; rotate_left; (focus (exact fun _ _ _ h => h)); (focus ((intro w hSw); (try dsimp only at hSw); (first | (go_simp; done) | (go_simp; with_reducible rfl)))); (try simp only [Act.put, List.setIfInBounds_toArray, List.set_cons_zero, List.set_cons_succ]))
                    (refine wpAnyH_take (i := 15) (v := ?_) (by simp only [List.getElem?_toArray, List.getElem?_cons_succ, List.getElem?_cons_zero]; rfl) (by kernel_rfl) (by kernel_rfl) (by kernel_rfl) ?_ (Or.inl ⟨by rfl, ?_⟩) (by assumption) ?_; rotate_left; (focus (exact fun _ _ _ h => h)); (focus ((intro w hSw); (try dsimp only at hSw); (first | (go_simp; done) | (go_simp; with_reducible rfl)))); (try simp only [Act.put, List.setIfInBounds_toArray, List.set_cons_zero, List.set_cons_succ]))
                    (refine wpAnyH_take (i := 16) (v := ?_) (by simp only [List.getElem?_toArray, List.getElem?_cons_succ, List.getElem?_cons_zero]; rfl) (by kernel_rfl) (by kernel_rfl) (by kernel_rfl) ?_ (Or.inl ⟨by rfl, ?_⟩) (by assumption) ?_; rotate_left; (focus (exact fun _ _ _ h => h)); (focus ((intro w hSw); (try dsimp only at hSw); (first | (go_simp; done) | (go_simp; with_reducible rfl)))); (try simp only [Act.put, List.setIfInBounds_toArray, List.set_cons_zero, List.set_cons_succ]))
                    (refine wpAnyH_take (i := 17) (v := ?_) (by simp only [List.getElem?_toArray, List.getElem?_cons_succ, List.getElem?_cons_zero]; rfl) (by kernel_rfl) (by kernel_rfl) (by kernel_rfl) ?_ (Or.inl ⟨by rfl, ?_⟩) (by assumption) ?_; rotate_left; (focus (exact fun _ _ _ h => h)); (focus ((intro w hSw); (try dsimp only at hSw); (first | (go_simp; done) | (go_simp; with_reducible rfl)))); (try simp only [Act.put, List.setIfInBounds_toArray, List.set_cons_zero, List.set_cons_succ]))
                    (refine wpAnyH_take (i := 18) (v := ?_) (by simp only [List.getElem?_toArray, List.getElem?_cons_succ, List.getElem?_cons_zero]; rfl) (by kernel_rfl) (by kernel_rfl) (by kernel_rfl) ?_ (Or.inl ⟨by rfl, ?_⟩) (by assumption) ?_; rotate_left; (focus (exact fun _ _ _ h => h)); (focus ((intro w hSw); (try dsimp only at hSw); (first | (go_simp; done) | (go_simp; with_reducible rfl)))); (try simp only [Act.put, List.setIfInBounds_toArray, List.set_cons_zero, List.set_cons_succ]))
                    (refine wpAnyH_take (i := 19) (v := ?_) (by simp only [List.getElem?_toArray, List.getElem?_cons_succ, List.getElem?_cons_zero]; rfl) (by kernel_rfl) (by kernel_rfl) (by kernel_rfl) ?_ (Or.inl ⟨by rfl, ?_⟩) (by assumption) ?_; rotate_left; (focus (exact fun _ _ _ h => h)); (focus ((intro w hSw); (try dsimp only at hSw); (first | (go_simp; done) | (go_simp; with_reducible rfl)))); (try simp only [Act.put, List.setIfInBounds_toArray, List.set_cons_zero, List.set_cons_succ]))
                    (refine wpAnyH_take (i := 20) (v := ?_) (by simp only [List.getElem?_toArray, List.getElem?_cons_succ, List.getElem?_cons_zero]; rfl) (by kernel_rfl) (by kernel_rfl) (by kernel_rfl) ?_ (Or.inl ⟨by rfl, ?_⟩) (by assumption) ?_; rotate_left; (focus (exact fun _ _ _ h => h)); (focus ((intro w hSw); (try dsimp only at hSw); (first | (go_simp; done) | (go_simp; with_reducible rfl)))); (try simp only [Act.put, List.setIfInBounds_toArray, List.set_cons_zero, List.set_cons_succ]))
                    (refine wpAnyH_take (i := 21) (v := ?_) (by simp only [List.getElem?_toArray, List.getElem?_cons_succ, List.getElem?_cons_zero]; rfl) (by kernel_rfl) (by kernel_rfl) (by kernel_rfl) ?_ (Or.inl ⟨by rfl, ?_⟩) (by assumption) ?_; rotate_left; (focus (exact fun _ _ _ h => h)); (focus ((intro w hSw); (try dsimp only at hSw); (first | (go_simp; done) | (go_simp; with_reducible rfl)))); (try simp only [Act.put, List.setIfInBounds_toArray, List.set_cons_zero, List.set_cons_succ]))
                    (refine wpAnyH_take (i := 22) (v := ?_) (by simp only [List.getElem?_toArray, List.getElem?_cons_succ, List.getElem?_cons_zero]; rfl) (by kernel_rfl) (by kernel_rfl) (by kernel_rfl) ?_ (Or.inl ⟨by rfl, ?_⟩) (by assumption) ?_; rotate_left; (focus (exact fun _ _ _ h => h)); (focus ((intro w hSw); (try dsimp only at hSw); (first | (go_simp; done) | (go_simp; with_reducible rfl)))); (try simp only [Act.put, List.setIfInBounds_toArray, List.set_cons_zero, List.set_cons_succ]))
                    (refine wpAnyH_take (i := 23) (v := ?_) (by simp only [List.getElem?_toArray, List.getElem?_cons_succ, List.getElem?_cons_zero]; rfl) (by kernel_rfl) (by kernel_rfl) (by kernel_rfl) ?_ (Or.inl ⟨by rfl, ?_⟩) (by assumption) ?_; rotate_left; (focus (exact fun _ _ _ h => h)); (focus ((intro w hSw); (try dsimp only at hSw); (first | (go_simp; done) | (go_simp; with_reducible rfl)))); (try simp only [Act.put, List.setIfInBounds_toArray, List.set_cons_zero, List.set_cons_succ]))
                    (refine wpAnyH_take (i := 24) (v := ?_) (by simp only [List.getElem?_toArray, List.getElem?_cons_succ, List.getElem?_cons_zero]; rfl) (by kernel_rfl) (by kernel_rfl) (by kernel_rfl) ?_ (Or.inl ⟨by rfl, ?_⟩) (by assumption) ?_; rotate_left; (focus (exact fun _ _ _ h => h)); (focus ((intro w hSw); (try dsimp only at hSw); (first | (go_simp; done) | (go_simp; with_reducible rfl)))); (try simp only [Act.put, List.setIfInBounds_toArray, List.set_cons_zero, List.set_cons_succ]))
                    (refine wpAnyH_take (i := 25) (v := ?_) (by simp only [List.getElem?_toArray, List.getElem?_cons_succ, List.getElem?_cons_zero]; rfl) (by kernel_rfl) (by kernel_rfl) (by kernel_rfl) ?_ (Or.inl ⟨by rfl, ?_⟩) (by assumption) ?_; rotate_left; (focus (exact fun _ _ _ h => h)); (focus ((intro w hSw); (try dsimp only at hSw); (first | (go_simp; done) | (go_simp; with_reducible rfl)))); (try simp only [Act.put, List.setIfInBounds_toArray, List.set_cons_zero, List.set_cons_succ]))
                    refine wpAnyH_ready (rs := [26]) (by kernel_rfl) (by simp) ?_
                    refine AllReadyH.cons (by simp only [List.getElem?_toArray, List.getElem?_cons_succ, List.getElem?_cons_zero]; rfl) (fun K hK => ?_) AllReadyH.nil
                    go_simp
                    refine (HDK.out _ (HI.out.below (binto E.below.drew hbf))).mono ?_
                    rintro e wg ⟨rfl, hbg⟩
                    have hbfg := binto hbf hbg
                    dsimp only
                    refine hK.out _ _ ⟨keep (w := wc.drew) hbfg k0 klt, keep (w := wc.drew) hbfg k1 klt, keep (w := wc.drew) hbfg k2 klt, keep (w := wc.drew) hbfg cx hbc⟩ (fun hHeld3 => ?_)
                    clear hK K hHeld2
                    try simp only [Act.put, List.setIfInBounds_toArray, List.set_cons_zero, List.set_cons_succ]
                    (refine wpAnyH_take (i := 27) (v := ?_) (by simp only [List.getElem?_toArray, List.getElem?_cons_succ, List.getElem?_cons_zero]; rfl) (by kernel_rfl) (by kernel_rfl) (by kernel_rfl) ?_ (Or.inl ⟨by rfl, ?_⟩) (by assumption) ?_; rotate_left; (focus (exact fun _ _ _ h => h)); (focus ((intro w hSw); (try dsimp only at hSw); (first | (go_simp; done) | (go_simp; with_reducible rfl)))); (try simp only [Act.put, List.setIfInBounds_toArray, List.set_cons_zero, List.set_cons_succ]))
                    refine wpAnyH_done (by kernel_rfl) ?_ _
                    have E' : LoEnv w l.length H (.slice a np cp) wg := E.keep ((Below.refl wc.heap.size wc).drew.trans hbfg)
                    have hown' := own_keep HOWN.out ((Below.refl wc.heap.size wc).drew.trans hbfg)
                    clear hHeld3 hbf hbg hbfg E hBw k0 k1 k2 kf klt cx HOWN
                    obtain ⟨k0, k1, k2, kf, klt⟩ := E'.img.d3
                    by_cases hn0 : 0 < n
                    · have hd0 : decide (0 < (n : Int)) = true := by simp; omega
                      have HE1 := Lib.hid (HED.out (xn : Int) ⟨n, by omega, HALL.out.out, fun _ => by rw [HDF.out]; simp, by rw [if_pos ⟨hn0, by omega, HTT.out⟩]; exact HXN.out.symm⟩)
                      go_wp2_with fail
                      refine (HTH.out _ (HT.out.below E'.below)).mono ?_
                      rintro e wh ⟨rfl, hbh⟩
                      have E2 := E'.keep hbh
                      have hown2 := own_keep hown' hbh
                      clear E' hown' hbh k0 k1 k2 kf klt
                      dsimp only
                      have hszX := E2.img.lt
                      go_wp2_with (at_builtin; refine wp_app1 _ rfl _ _ 25 rfl (w.heap.size + 1) 3 (.int .i64 0) 1 8 Try.underlying25 Try.infoInt rfl (by decide) (by decide) _ _ _ rfl (hown2.alloc _) _ [.int .i64 (xn)] rfl rfl (Blk.new _ _ _) (by simp [Value.oneCell']) (by omega) (by simp; omega) ?_; intro v' w4 hown4 hg4)
                      have hbb4 : Below (w.heap.size + 1) wh w4 := ((Below.refl (w.heap.size + 1) wh).alloc (by omega) _).grown hg4 (by simp; omega) (fun j hj => (hown2.lt j hj).1)
                      refine ⟨⟨k + 1, o ++ [(xn : Int)], by go_num, by omega, by simp [hol], HE1.out, ⟨E2.below.trans (hbb4.mono (by omega)), E2.img.keep hbb4 (by omega)⟩, ?_⟩, by simp [intOf]; omega⟩
                      rw [List.map_append]; exact hown4
                    · have hd0 : decide (0 < (n : Int)) = false := by simp; omega
                      have HE1 := Lib.hid (HED.out (-1) ⟨n, by omega, HALL.out.out, fun _ => by rw [HDF.out]; simp, by rw [if_neg (by omega)]⟩)
                      have hszX := E'.img.lt
                      go_wp2_with (at_builtin; refine wp_app1 _ rfl _ _ 25 rfl (w.heap.size + 1) 3 (.int .i64 0) 1 8 Try.underlying25 Try.infoInt rfl (by decide) (by decide) _ _ _ rfl (hown'.alloc _) _ [.int .i64 (-1)] rfl rfl (Blk.new _ _ _) (by simp [Value.oneCell']) (by omega) (by simp; omega) ?_; intro v' w4 hown4 hg4)
                      have hbb4 : Below (w.heap.size + 1) wg w4 := ((Below.refl (w.heap.size + 1) wg).alloc (by omega) _).grown hg4 (by simp; omega) (fun j hj => (hown'.lt j hj).1)
                      refine ⟨⟨k + 1, o ++ [-1], by go_num, by omega, by simp [hol], HE1.out, ⟨E'.below.trans (hbb4.mono (by omega)), E'.img.keep hbb4 (by omega)⟩, ?_⟩, by simp [intOf]; omega⟩
                      rw [List.map_append]; exact hown4
                | false =>
                  rw [show thereB (l.length : Int) H l (bs + n) k = false from htt] at hTH
                  have HTH := Lib.hid hTH
                  have HE1 := Lib.hid (HED.out (-1) ⟨n, by omega, hall.out, fun _ => by rw [htt]; rfl, by rw [if_neg (by rw [htt]; simp)]⟩)
                  clear htt hTH hall
                  go_wp2_with fail
                  refine wp_region_held_drew (S := fun w' => w'.cell? ⟨w.heap.size, 0, none⟩ = some (.int .i64 l.length) ∧ w'.cell? ⟨w.heap.size, 1, none⟩ = some (.int .i64 H) ∧ w'.cell? ⟨w.heap.size, 2, none⟩ = some (.slice a np cp)) (by kernel_rfl) ⟨k0, k1, k2⟩ (fun hHeld => ?_)
                  (refine wpAnyH_take (i := 0) (v := ?_) (by simp only [List.getElem?_toArray, List.getElem?_cons_succ, List.getElem?_cons_zero]; rfl) (by kernel_rfl) (by kernel_rfl) (by kernel_rfl) ?_ (Or.inl ⟨by rfl, ?_⟩) (by assumption) ?_; rotate_left; (focus (exact fun _ _ _ h => h)); (focus ((intro w hSw); (try dsimp only at hSw); (first | (go_simp; done) | (go_simp; with_reducible rfl)))); (try simp only [Act.put, List.setIfInBounds_toArray, List.set_cons_zero, List.set_cons_succ]))
                  (refine wpAnyH_take (i := 1) (v := ?_) (by simp only [List.getElem?_toArray, List.getElem?_cons_succ, List.getElem?_cons_zero]; rfl) (by kernel_rfl) (by kernel_rfl) (by kernel_rfl) ?_ (Or.inl ⟨by rfl, ?_⟩) (by assumption) ?_; rotate_left; (focus (exact fun _ _ _ h => h)); (focus ((intro w hSw); (try dsimp only at hSw); (first | (go_simp; done) | (go_simp; with_reducible rfl)))); (try simp only [Act.put, List.setIfInBounds_toArray, List.set_cons_zero, List.set_cons_succ]))
                  (refine wpAnyH_take (i := 2) (v := ?_) (by simp only [List.getElem?_toArray, List.getElem?_cons_succ, List.getElem?_cons_zero]; rfl) (by kernel_rfl) (by kernel_rfl) (by kernel_rfl) ?_ (Or.inl ⟨by rfl, ?_⟩) (by assumption) ?_; rotate_left; (focus (exact fun _ _ _ h => h)); (focus ((intro w hSw); (try dsimp only at hSw); (first | (go_simp; done) | (go_simp; with_reducible rfl)))); (try simp only [Act.put, List.setIfInBounds_toArray, List.set_cons_zero, List.set_cons_succ]))
                  (refine wpAnyH_take (i := 3) (v := ?_) (by simp only [List.getElem?_toArray, List.getElem?_cons_succ, List.getElem?_cons_zero]; rfl) (by kernel_rfl) (by kernel_rfl) (by kernel_rfl) ?_ (Or.inl ⟨by rfl, ?_⟩) (by assumption) ?_; rotate_left; (focus (exact fun _ _ _ h => h)); (focus ((intro w hSw); (try dsimp only at hSw); (first | (go_simp; done) | (go_simp; with_reducible rfl)))); (try simp only [Act.put, List.setIfInBounds_toArray, List.set_cons_zero, List.set_cons_succ]))
                  (refine wpAnyH_take (i := 4) (v := ?_) (by simp only [List.getElem?_toArray, List.getElem?_cons_succ, List.getElem?_cons_zero]; rfl) (by kernel_rfl) (by kernel_rfl) (by kernel_rfl) ?_ (Or.inl ⟨by rfl, ?_⟩) (by assumption) ?_; rotate_left; (focus (exact fun _ _ _ h => h)); (focus ((intro w hSw); (try dsimp only at hSw); (first | (go_simp; done) | (go_simp; with_reducible rfl)))); (try simp only [Act.put, List.setIfInBounds_toArray, List.set_cons_zero, List.set_cons_succ]))
                  (refine wpAnyH_take (i := 5) (v := ?_) (by simp only [List.getElem?_toArray, List.getElem?_cons_succ, List.getElem?_cons_zero]; rfl) (by kernel_rfl) (by kernel_rfl) (by kernel_rfl) ?_ (Or.inl ⟨by rfl, ?_⟩) (by assumption) ?_; rotate_left; (focus (exact fun _ _ _ h => h)); (focus ((intro w hSw); (try dsimp only at hSw); (first | (go_simp; done) | (go_simp; with_reducible rfl)))); (try simp only [Act.put, List.setIfInBounds_toArray, List.set_cons_zero, List.set_cons_succ]))
                  (refine wpAnyH_take (i := 6) (v := ?_) (by simp only [List.getElem?_toArray, List.getElem?_cons_succ, List.getElem?_cons_zero]; rfl) (by kernel_rfl) (by kernel_rfl) (by kernel_rfl) ?_ (Or.inl ⟨by rfl, ?_⟩) (by assumption) ?_; rotate_left; (focus (exact fun _ _ _ h => h)); (focus ((intro w hSw); (try dsimp only at hSw); (first | (go_simp; done) | (go_simp; with_reducible rfl)))); (try simp only [Act.put, List.setIfInBounds_toArray, List.set_cons_zero, List.set_cons_succ]))
                  (refine wpAnyH_take (i := 7) (v := ?_) (by simp only [List.getElem?_toArray, List.getElem?_cons_succ, List.getElem?_cons_zero]; rfl) (by kernel_rfl) (by kernel_rfl) (by kernel_rfl) ?_ (Or.inl ⟨by rfl, ?_⟩) (by assumption) ?_; rotate_left; (focus (exact fun _ _ _ h => h)); (focus ((intro w hSw); (try dsimp only at hSw); (first | (go_simp; done) | (go_simp; with_reducible rfl)))); (try simp only [Act.put, List.setIfInBounds_toArray, List.set_cons_zero, List.set_cons_succ]))
                  (refine wpAnyH_take (i := 8) (v := ?_) (by simp only [List.getElem?_toArray, List.getElem?_cons_succ, List.getElem?_cons_zero]; rfl) (by kernel_rfl) (by kernel_rfl) (by kernel_rfl) ?_ (Or.inl ⟨by rfl, ?_⟩) (by assumption) ?_; rotate_left; (focus (exact fun _ _ _ h => h)); (focus ((intro w hSw); (try dsimp only at hSw); (first | (go_simp; done) | (go_simp; with_reducible rfl)))); (try simp only [Act.put, List.setIfInBounds_toArray, List.set_cons_zero, List.set_cons_succ]))
                  (refine wpAnyH_take (i := 9) (v := ?_) (by simp only [List.getElem?_toArray, List.getElem?_cons_succ, List.getElem?_cons_zero]; rfl) (by kernel_rfl) (by kernel_rfl) (by kernel_rfl) ?_ (Or.inl ⟨by rfl, ?_⟩) (by assumption) ?_; rotate_left; (focus (exact fun _ _ _ h => h)); (focus ((intro w hSw); (try dsimp only at hSw); (first | (go_simp; done) | (go_simp; with_reducible rfl)))); (try simp only [Act.put, List.setIfInBounds_toArray, List.set_cons_zero, List.set_cons_succ]))
                  (refine wpAnyH_take (i := 10) (v := ?_) (by simp only [List.getElem?_toArray, List.getElem?_cons_succ, List.getElem?_cons_zero]; rfl) (by kernel_rfl) (by kernel_rfl) (by kernel_rfl) ?_ (Or.inl ⟨by rfl, ?_⟩) (by assumption) ?_; rotate_left; (focus (exact fun _ _ _ h => h)); (focus ((intro w hSw); (try dsimp only at hSw); (first | (go_simp; done) | (go_simp; with_reducible rfl)))); (try simp only [Act.put, List.setIfInBounds_toArray, List.set_cons_zero, List.set_cons_succ]))
                  refine wpAnyH_ready (rs := [11]) (by kernel_rfl) (by simp) ?_
                  refine AllReadyH.cons (by simp only [List.getElem?_toArray, List.getElem?_cons_succ, List.getElem?_cons_zero]; rfl) (fun K hK => ?_) AllReadyH.nil
                  go_simp
                  refine (HTH.out _ (HT.out.below E.below.drew)).mono ?_
                  rintro e wf ⟨rfl, hbf⟩
                  dsimp only
                  refine hK.out _ _ ⟨keep (w := wc.drew) hbf k0 klt, keep (w := wc.drew) hbf k1 klt, keep (w := wc.drew) hbf k2 klt⟩ (fun hHeld2 => ?_)
                  clear hK K hHeld
                  try simp only [Act.put, List.setIfInBounds_toArray, List.set_cons_zero, List.set_cons_succ]
                  (refine wpAnyH_take (i := 12) (v := ?_) (by simp only [List.getElem?_toArray, List.getElem?_cons_succ, List.getElem?_cons_zero]; rfl) (by kernel_rfl) (by kernel_rfl) (by kernel_rfl) ?_ (Or.inl ⟨by rfl, ?_⟩) (by assumption) ?_; rotate_left; (focus (exact fun _ _ _ h => h)); (focus ((intro w hSw); (try dsimp only at hSw); (first | (go_simp; done) | (go_simp; with_reducible rfl)))); (try simp only [Act.put, List.setIfInBounds_toArray, List.set_cons_zero, List.set_cons_succ]))
                  (refine wpAnyH_take (i := 13) (v := ?_) (by simp only [List.getElem?_toArray, List.getElem?_cons_succ, List.getElem?_cons_zero]; rfl) (by kernel_rfl) (by kernel_rfl) (by kernel_rfl) ?_ (Or.inl ⟨by rfl, ?_⟩) (by assumption) ?_; rotate_left; (focus (exact fun _ _ _ h => h)); (focus ((intro w hSw); (try dsimp only at hSw); (first | (go_simp; done) | (go_simp; with_reducible rfl)))); (try simp only [Act.put, List.setIfInBounds_toArray, List.set_cons_zero, List.set_cons_succ]))
                  refine wpAnyH_skip (by kernel_rfl) (fun _ _ _ d h => by cases d <;> exact h) [14, 15, 16, 17, 18, 19, 20, 21, 22, 23, 24, 25, 26] _ _ _ _ (by kernel_rfl) (by assumption) ?_
                  simp only [skipL, skipA, skipOne, List.getElem?_toArray, List.getElem?_cons_succ, List.getElem?_cons_zero, Option.bind_some, Act.put, List.setIfInBounds_toArray, List.set_cons_zero, List.set_cons_succ]
                  (refine wpAnyH_take (i := 27) (v := ?_) (by simp only [List.getElem?_toArray, List.getElem?_cons_succ, List.getElem?_cons_zero]; rfl) (by kernel_rfl) (by kernel_rfl) (by kernel_rfl) ?_ (Or.inl ⟨by rfl, ?_⟩) (by assumption) ?_; rotate_left; (focus (exact fun _ _ _ h => h)); (focus ((intro w hSw); (try dsimp only at hSw); (first | (go_simp; done) | (go_simp; with_reducible rfl)))); (try simp only [Act.put, List.setIfInBounds_toArray, List.set_cons_zero, List.set_cons_succ]))
                  refine wpAnyH_done (by kernel_rfl) ?_ _
                  have E' : LoEnv w l.length H (.slice a np cp) wf := E.keep ((Below.refl wc.heap.size wc).drew.trans hbf)
                  have hown' := own_keep HOWN.out ((Below.refl wc.heap.size wc).drew.trans hbf)
                  clear hHeld2 hbf E hBw k0 k1 k2 kf klt HOWN
                  obtain ⟨k0, k1, k2, kf, klt⟩ := E'.img.d3
                  by_cases hn0 : 0 < n
                  · have hd0 : decide (0 < (n : Int)) = true := by simp; omega
                    go_wp2_with fail
                    refine (HTH.out _ (HT.out.below E'.below)).mono ?_
                    rintro e wh ⟨rfl, hbh⟩
                    have E2 := E'.keep hbh
                    have hown2 := own_keep hown' hbh
                    clear E' hown' hbh k0 k1 k2 kf klt
                    dsimp only
                    have hszX := E2.img.lt
                    go_wp2_with (at_builtin; refine wp_app1 _ rfl _ _ 25 rfl (w.heap.size + 1) 3 (.int .i64 0) 1 8 Try.underlying25 Try.infoInt rfl (by decide) (by decide) _ _ _ rfl (hown2.alloc _) _ [.int .i64 (-1)] rfl rfl (Blk.new _ _ _) (by simp [Value.oneCell']) (by omega) (by simp; omega) ?_; intro v' w4 hown4 hg4)
                    have hbb4 : Below (w.heap.size + 1) wh w4 := ((Below.refl (w.heap.size + 1) wh).alloc (by omega) _).grown hg4 (by simp; omega) (fun j hj => (hown2.lt j hj).1)
                    refine ⟨⟨k + 1, o ++ [-1], by go_num, by omega, by simp [hol], HE1.out, ⟨E2.below.trans (hbb4.mono (by omega)), E2.img.keep hbb4 (by omega)⟩, ?_⟩, by simp [intOf]; omega⟩
                    rw [List.map_append]; exact hown4
                  · have hd0 : decide (0 < (n : Int)) = false := by simp; omega
                    have hszX := E'.img.lt
                    go_wp2_with (at_builtin; refine wp_app1 _ rfl _ _ 25 rfl (w.heap.size + 1) 3 (.int .i64 0) 1 8 Try.underlying25 Try.infoInt rfl (by decide) (by decide) _ _ _ rfl (hown'.alloc _) _ [.int .i64 (-1)] rfl rfl (Blk.new _ _ _) (by simp [Value.oneCell']) (by omega) (by simp; omega) ?_; intro v' w4 hown4 hg4)
                    have hbb4 : Below (w.heap.size + 1) wf w4 := ((Below.refl (w.heap.size + 1) wf).alloc (by omega) _).grown hg4 (by simp; omega) (fun j hj => (hown'.lt j hj).1)
                    refine ⟨⟨k + 1, o ++ [-1], by go_num, by omega, by simp [hol], HE1.out, ⟨E'.below.trans (hbb4.mono (by omega)), E'.img.keep hbb4 (by omega)⟩, ?_⟩, by simp [intOf]; omega⟩
                    rw [List.map_append]; exact hown4
              · have hd4 : decide ((n : Int) ≤ 4 * s) = false := by simpa using hn4
                have HE1 := Lib.hid (HED.out (-1) ⟨n, by omega, hall.out, fun _ => by omega, by rw [if_neg (by omega)]⟩)
                have hn0 : decide (0 < (n : Int)) = true := by simp; omega
                clear hall hTH
                go_wp2_with fail
                go_quiet (fail)
                generalize hWq : World.drewN wc _ = X
                have hbq : Below wc.heap.size wc X := by rw [← hWq]; exact below_drewN (Below.refl _ _) _
                have E' := E.keep hbq
                have hown' := own_keep HOWN.out hbq
                clear hWq hbq E hBw k0 k1 k2 kf klt HOWN
                have hszX := E'.img.lt
                go_wp2_with (at_builtin; refine wp_app1 _ rfl _ _ 25 rfl (w.heap.size + 1) 3 (.int .i64 0) 1 8 Try.underlying25 Try.infoInt rfl (by decide) (by decide) _ _ _ rfl (hown'.alloc _) _ [.int .i64 (-1)] rfl rfl (Blk.new _ _ _) (by simp [Value.oneCell']) (by omega) (by simp; omega) ?_; intro v' w4 hown4 hg4)
                have hbb4 : Below (w.heap.size + 1) X w4 := ((Below.refl (w.heap.size + 1) X).alloc (by omega) _).grown hg4 (by simp; omega) (fun j hj => (hown'.lt j hj).1)
                refine ⟨⟨k + 1, o ++ [-1], by go_num, by omega, by simp [hol], HE1.out, ⟨E'.below.trans (hbb4.mono (by omega)), E'.img.keep hbb4 (by omega)⟩, ?_⟩, by simp [intOf]; omega⟩
                rw [List.map_append]; exact hown4
          · obtain rfl : k = N := by omega
            have hEA : EdgesAre l.length H px l s R o := ⟨by rw [hol]; exact HN.out.symm, f, HFT.out, fun j hj => by rw [← HBS.out]; exact hed.out j (by omega)⟩
            have hVO := hEA.ok h2 (by have := HN.out; omega)
            have HEA := Lib.hid hEA
            have hown' := hown
            rw [← hol] at hown'
            have HRD := Lib.hid (own_reads hown')
            have HVO := Lib.hid hVO
            have hBE := Lib.hid E.below
            have hd0 : decide ((k : Int) < (k : Int)) = false := by simp
            clear hEA hed hVO hown' hown E
            go_wp2_with fail
            refine (filled_any _ o wb HVO.out HRD.out).mono ?_
            rintro e w7 ⟨u, rfl, hou, hb7⟩
            have hBf := binto hBE.out hb7
            have hsz := hBE.out.size
            dsimp only
            go_wp2_with fail
            go_ret
            rw [fillF_len] at hou
            exact ⟨o, HEA.out, u, rfl, own_base hou hsz, hBf⟩

end Go.Proofs.Ytnfgedbcfclnmaa

namespace Go.Proofs.Ytnfgedbcfclnmaa
open Go.RowKit

set_option maxRecDepth 100000 in
set_option maxHeartbeats 2000000 in
theorem law2_bad4m1 (W H : Int) (a : Option Addr) (np cp : Nat) (tv : Value) (l : List Int) (s R : Int) (w : World) (ht : Reads (Value.int .i64) w tv l)
    (hL : ∀ wz, Reads (Value.int .i64) wz tv l → Calls Try.prog 13 #[.agg #[.int .i64 W, .int .i64 H, .slice a np cp], tv, .int .i64 s, .int .i64 R] wz fun e w' => e = .returned (.tuple #[.slice none 0 0, .agg #[.int .i64 4, .int .i64 (-1)]]) ∧ Below wz.heap.size wz w')
    (hF : leftsFaultF W H np l s R = (4, -1)) :
    Calls Try.prog 4 #[.agg #[.int .i64 W, .int .i64 H, .slice a np cp], tv, .int .i64 s, .int .i64 R] w fun e w' => e = .returned (.bool true) ∧ Below w.heap.size w w' := by
  have hFF := fun wz hz => leftsFault_any W H a np cp tv l s R wz hz
  rw [hF] at hFF
  have HF := Lib.hid hFF
  have HL := Lib.hid hL
  have HT := Lib.hid ht
  obtain ⟨ta, tc, rfl, -⟩ := id ht
  clear hFF hL hF ht
  go_enter Try.func4, Try.ntmps4
  go_wp2_with fail
  refine (HL.out _ (HT.out.below (below_alloc _ _))).mono ?_
  rintro e w1 ⟨rfl, hb1⟩
  have E1 : L1Env w #[.int .i64 W, .int .i64 H, .slice a np cp] w1 := ⟨binto (below_alloc w _) hb1, (Blk.new _ _ _).keep hb1 (by simp)⟩
  obtain ⟨k0, k1, k2, kf, klt⟩ := E1.img.d3
  have klt1 : w.heap.size < w1.heap.size + 1 := by omega
  clear hb1 HL
  dsimp only
  go_wp2_with fail
  generalize hW2 : World.alloc w1 _ = W2
  have E2 : L1Env w #[.int .i64 W, .int .i64 H, .slice a np cp] W2 := by rw [← hW2]; exact E1.keep (below_alloc _ _)
  have D2 : Blk W2 w1.heap.size #[.int .i64 4, .int .i64 (-1)] 27 := by rw [← hW2]; exact Blk.new _ _ _
  clear hW2 E1 k0 k1 k2 kf klt klt1
  refine (HF.out W2 (HT.out.below E2.below)).mono ?_
  rintro e w3 ⟨rfl, hb3⟩
  have E3 := E2.keep hb3
  have D3 := D2.keep hb3 D2.lt
  obtain ⟨d0, d1, df, dlt⟩ := D3.d2
  have dlt1 : w1.heap.size < w3.heap.size + 1 := by omega
  clear E2 D2 D3 hb3 HF
  dsimp only
  go_wp2_with fail
  refine (searched_any _).mono ?_
  rintro e w4 ⟨rfl, hb4⟩
  have hB := binto E3.below (binto (below_alloc w3 _) hb4)
  dsimp only
  go_wp2_with fail
  go_ret
  exact ⟨rfl, hB⟩

set_option maxRecDepth 100000 in
set_option maxHeartbeats 2000000 in
theorem law2_bad4m2 (W H : Int) (a : Option Addr) (np cp : Nat) (tv : Value) (l : List Int) (s R : Int) (w : World) (ht : Reads (Value.int .i64) w tv l)
    (hL : ∀ wz, Reads (Value.int .i64) wz tv l → Calls Try.prog 13 #[.agg #[.int .i64 W, .int .i64 H, .slice a np cp], tv, .int .i64 s, .int .i64 R] wz fun e w' => e = .returned (.tuple #[.slice none 0 0, .agg #[.int .i64 4, .int .i64 (-2)]]) ∧ Below wz.heap.size wz w')
    (hF : leftsFaultF W H np l s R = (4, -2)) :
    Calls Try.prog 4 #[.agg #[.int .i64 W, .int .i64 H, .slice a np cp], tv, .int .i64 s, .int .i64 R] w fun e w' => e = .returned (.bool true) ∧ Below w.heap.size w w' := by
  have hFF := fun wz hz => leftsFault_any W H a np cp tv l s R wz hz
  rw [hF] at hFF
  have HF := Lib.hid hFF
  have HL := Lib.hid hL
  have HT := Lib.hid ht
  obtain ⟨ta, tc, rfl, -⟩ := id ht
  clear hFF hL hF ht
  go_enter Try.func4, Try.ntmps4
  go_wp2_with fail
  refine (HL.out _ (HT.out.below (below_alloc _ _))).mono ?_
  rintro e w1 ⟨rfl, hb1⟩
  have E1 : L1Env w #[.int .i64 W, .int .i64 H, .slice a np cp] w1 := ⟨binto (below_alloc w _) hb1, (Blk.new _ _ _).keep hb1 (by simp)⟩
  obtain ⟨k0, k1, k2, kf, klt⟩ := E1.img.d3
  have klt1 : w.heap.size < w1.heap.size + 1 := by omega
  clear hb1 HL
  dsimp only
  go_wp2_with fail
  generalize hW2 : World.alloc w1 _ = W2
  have E2 : L1Env w #[.int .i64 W, .int .i64 H, .slice a np cp] W2 := by rw [← hW2]; exact E1.keep (below_alloc _ _)
  have D2 : Blk W2 w1.heap.size #[.int .i64 4, .int .i64 (-2)] 27 := by rw [← hW2]; exact Blk.new _ _ _
  clear hW2 E1 k0 k1 k2 kf klt klt1
  refine (HF.out W2 (HT.out.below E2.below)).mono ?_
  rintro e w3 ⟨rfl, hb3⟩
  have E3 := E2.keep hb3
  have D3 := D2.keep hb3 D2.lt
  obtain ⟨d0, d1, df, dlt⟩ := D3.d2
  have dlt1 : w1.heap.size < w3.heap.size + 1 := by omega
  clear E2 D2 D3 hb3 HF
  dsimp only
  go_wp2_with fail
  refine (searched_any _).mono ?_
  rintro e w4 ⟨rfl, hb4⟩
  have hB := binto E3.below (binto (below_alloc w3 _) hb4)
  dsimp only
  go_wp2_with fail
  go_ret
  exact ⟨rfl, hB⟩

set_option maxRecDepth 100000 in
set_option maxHeartbeats 2000000 in
theorem law2_bad9m3 (W H : Int) (a : Option Addr) (np cp : Nat) (tv : Value) (l : List Int) (s R : Int) (w : World) (ht : Reads (Value.int .i64) w tv l)
    (hL : ∀ wz, Reads (Value.int .i64) wz tv l → Calls Try.prog 13 #[.agg #[.int .i64 W, .int .i64 H, .slice a np cp], tv, .int .i64 s, .int .i64 R] wz fun e w' => e = .returned (.tuple #[.slice none 0 0, .agg #[.int .i64 9, .int .i64 (-3)]]) ∧ Below wz.heap.size wz w')
    (hF : leftsFaultF W H np l s R = (9, -3)) :
    Calls Try.prog 4 #[.agg #[.int .i64 W, .int .i64 H, .slice a np cp], tv, .int .i64 s, .int .i64 R] w fun e w' => e = .returned (.bool true) ∧ Below w.heap.size w w' := by
  have hFF := fun wz hz => leftsFault_any W H a np cp tv l s R wz hz
  rw [hF] at hFF
  have HF := Lib.hid hFF
  have HL := Lib.hid hL
  have HT := Lib.hid ht
  obtain ⟨ta, tc, rfl, -⟩ := id ht
  clear hFF hL hF ht
  go_enter Try.func4, Try.ntmps4
  go_wp2_with fail
  refine (HL.out _ (HT.out.below (below_alloc _ _))).mono ?_
  rintro e w1 ⟨rfl, hb1⟩
  have E1 : L1Env w #[.int .i64 W, .int .i64 H, .slice a np cp] w1 := ⟨binto (below_alloc w _) hb1, (Blk.new _ _ _).keep hb1 (by simp)⟩
  obtain ⟨k0, k1, k2, kf, klt⟩ := E1.img.d3
  have klt1 : w.heap.size < w1.heap.size + 1 := by omega
  clear hb1 HL
  dsimp only
  go_wp2_with fail
  generalize hW2 : World.alloc w1 _ = W2
  have E2 : L1Env w #[.int .i64 W, .int .i64 H, .slice a np cp] W2 := by rw [← hW2]; exact E1.keep (below_alloc _ _)
  have D2 : Blk W2 w1.heap.size #[.int .i64 9, .int .i64 (-3)] 27 := by rw [← hW2]; exact Blk.new _ _ _
  clear hW2 E1 k0 k1 k2 kf klt klt1
  refine (HF.out W2 (HT.out.below E2.below)).mono ?_
  rintro e w3 ⟨rfl, hb3⟩
  have E3 := E2.keep hb3
  have D3 := D2.keep hb3 D2.lt
  obtain ⟨d0, d1, df, dlt⟩ := D3.d2
  have dlt1 : w1.heap.size < w3.heap.size + 1 := by omega
  clear E2 D2 D3 hb3 HF
  dsimp only
  go_wp2_with fail
  refine (searched_any _).mono ?_
  rintro e w4 ⟨rfl, hb4⟩
  have hB := binto E3.below (binto (below_alloc w3 _) hb4)
  dsimp only
  go_wp2_with fail
  go_ret
  exact ⟨rfl, hB⟩

set_option maxRecDepth 100000 in
set_option maxHeartbeats 2000000 in
theorem law2_bad9m2 (W H : Int) (a : Option Addr) (np cp : Nat) (tv : Value) (l : List Int) (s R : Int) (w : World) (ht : Reads (Value.int .i64) w tv l)
    (hL : ∀ wz, Reads (Value.int .i64) wz tv l → Calls Try.prog 13 #[.agg #[.int .i64 W, .int .i64 H, .slice a np cp], tv, .int .i64 s, .int .i64 R] wz fun e w' => e = .returned (.tuple #[.slice none 0 0, .agg #[.int .i64 9, .int .i64 (-2)]]) ∧ Below wz.heap.size wz w')
    (hF : leftsFaultF W H np l s R = (9, -2)) :
    Calls Try.prog 4 #[.agg #[.int .i64 W, .int .i64 H, .slice a np cp], tv, .int .i64 s, .int .i64 R] w fun e w' => e = .returned (.bool true) ∧ Below w.heap.size w w' := by
  have hFF := fun wz hz => leftsFault_any W H a np cp tv l s R wz hz
  rw [hF] at hFF
  have HF := Lib.hid hFF
  have HL := Lib.hid hL
  have HT := Lib.hid ht
  obtain ⟨ta, tc, rfl, -⟩ := id ht
  clear hFF hL hF ht
  go_enter Try.func4, Try.ntmps4
  go_wp2_with fail
  refine (HL.out _ (HT.out.below (below_alloc _ _))).mono ?_
  rintro e w1 ⟨rfl, hb1⟩
  have E1 : L1Env w #[.int .i64 W, .int .i64 H, .slice a np cp] w1 := ⟨binto (below_alloc w _) hb1, (Blk.new _ _ _).keep hb1 (by simp)⟩
  obtain ⟨k0, k1, k2, kf, klt⟩ := E1.img.d3
  have klt1 : w.heap.size < w1.heap.size + 1 := by omega
  clear hb1 HL
  dsimp only
  go_wp2_with fail
  generalize hW2 : World.alloc w1 _ = W2
  have E2 : L1Env w #[.int .i64 W, .int .i64 H, .slice a np cp] W2 := by rw [← hW2]; exact E1.keep (below_alloc _ _)
  have D2 : Blk W2 w1.heap.size #[.int .i64 9, .int .i64 (-2)] 27 := by rw [← hW2]; exact Blk.new _ _ _
  clear hW2 E1 k0 k1 k2 kf klt klt1
  refine (HF.out W2 (HT.out.below E2.below)).mono ?_
  rintro e w3 ⟨rfl, hb3⟩
  have E3 := E2.keep hb3
  have D3 := D2.keep hb3 D2.lt
  obtain ⟨d0, d1, df, dlt⟩ := D3.d2
  have dlt1 : w1.heap.size < w3.heap.size + 1 := by omega
  clear E2 D2 D3 hb3 HF
  dsimp only
  go_wp2_with fail
  refine (searched_any _).mono ?_
  rintro e w4 ⟨rfl, hb4⟩
  have hB := binto E3.below (binto (below_alloc w3 _) hb4)
  dsimp only
  go_wp2_with fail
  go_ret
  exact ⟨rfl, hB⟩

set_option maxRecDepth 100000 in
set_option maxHeartbeats 2000000 in
theorem law2_bad4m3 (W H : Int) (a : Option Addr) (np cp : Nat) (tv : Value) (l : List Int) (s R : Int) (w : World) (ht : Reads (Value.int .i64) w tv l)
    (hL : ∀ wz, Reads (Value.int .i64) wz tv l → Calls Try.prog 13 #[.agg #[.int .i64 W, .int .i64 H, .slice a np cp], tv, .int .i64 s, .int .i64 R] wz fun e w' => e = .returned (.tuple #[.slice none 0 0, .agg #[.int .i64 4, .int .i64 (-3)]]) ∧ Below wz.heap.size wz w')
    (hF : leftsFaultF W H np l s R = (4, -3)) :
    Calls Try.prog 4 #[.agg #[.int .i64 W, .int .i64 H, .slice a np cp], tv, .int .i64 s, .int .i64 R] w fun e w' => e = .returned (.bool true) ∧ Below w.heap.size w w' := by
  have hFF := fun wz hz => leftsFault_any W H a np cp tv l s R wz hz
  rw [hF] at hFF
  have HF := Lib.hid hFF
  have HL := Lib.hid hL
  have HT := Lib.hid ht
  obtain ⟨ta, tc, rfl, -⟩ := id ht
  clear hFF hL hF ht
  go_enter Try.func4, Try.ntmps4
  go_wp2_with fail
  refine (HL.out _ (HT.out.below (below_alloc _ _))).mono ?_
  rintro e w1 ⟨rfl, hb1⟩
  have E1 : L1Env w #[.int .i64 W, .int .i64 H, .slice a np cp] w1 := ⟨binto (below_alloc w _) hb1, (Blk.new _ _ _).keep hb1 (by simp)⟩
  obtain ⟨k0, k1, k2, kf, klt⟩ := E1.img.d3
  have klt1 : w.heap.size < w1.heap.size + 1 := by omega
  clear hb1 HL
  dsimp only
  go_wp2_with fail
  generalize hW2 : World.alloc w1 _ = W2
  have E2 : L1Env w #[.int .i64 W, .int .i64 H, .slice a np cp] W2 := by rw [← hW2]; exact E1.keep (below_alloc _ _)
  have D2 : Blk W2 w1.heap.size #[.int .i64 4, .int .i64 (-3)] 27 := by rw [← hW2]; exact Blk.new _ _ _
  clear hW2 E1 k0 k1 k2 kf klt klt1
  refine (HF.out W2 (HT.out.below E2.below)).mono ?_
  rintro e w3 ⟨rfl, hb3⟩
  have E3 := E2.keep hb3
  have D3 := D2.keep hb3 D2.lt
  obtain ⟨d0, d1, df, dlt⟩ := D3.d2
  have dlt1 : w1.heap.size < w3.heap.size + 1 := by omega
  clear E2 D2 D3 hb3 HF
  dsimp only
  go_wp2_with fail
  refine (searched_any _).mono ?_
  rintro e w4 ⟨rfl, hb4⟩
  have hB := binto E3.below (binto (below_alloc w3 _) hb4)
  dsimp only
  go_wp2_with fail
  go_ret
  exact ⟨rfl, hB⟩

set_option maxRecDepth 100000 in
set_option maxHeartbeats 2000000 in
theorem law2_bad4m4 (W H : Int) (a : Option Addr) (np cp : Nat) (tv : Value) (l : List Int) (s R : Int) (w : World) (ht : Reads (Value.int .i64) w tv l)
    (hL : ∀ wz, Reads (Value.int .i64) wz tv l → Calls Try.prog 13 #[.agg #[.int .i64 W, .int .i64 H, .slice a np cp], tv, .int .i64 s, .int .i64 R] wz fun e w' => e = .returned (.tuple #[.slice none 0 0, .agg #[.int .i64 4, .int .i64 (-4)]]) ∧ Below wz.heap.size wz w')
    (hF : leftsFaultF W H np l s R = (4, -4)) :
    Calls Try.prog 4 #[.agg #[.int .i64 W, .int .i64 H, .slice a np cp], tv, .int .i64 s, .int .i64 R] w fun e w' => e = .returned (.bool true) ∧ Below w.heap.size w w' := by
  have hFF := fun wz hz => leftsFault_any W H a np cp tv l s R wz hz
  rw [hF] at hFF
  have HF := Lib.hid hFF
  have HL := Lib.hid hL
  have HT := Lib.hid ht
  obtain ⟨ta, tc, rfl, -⟩ := id ht
  clear hFF hL hF ht
  go_enter Try.func4, Try.ntmps4
  go_wp2_with fail
  refine (HL.out _ (HT.out.below (below_alloc _ _))).mono ?_
  rintro e w1 ⟨rfl, hb1⟩
  have E1 : L1Env w #[.int .i64 W, .int .i64 H, .slice a np cp] w1 := ⟨binto (below_alloc w _) hb1, (Blk.new _ _ _).keep hb1 (by simp)⟩
  obtain ⟨k0, k1, k2, kf, klt⟩ := E1.img.d3
  have klt1 : w.heap.size < w1.heap.size + 1 := by omega
  clear hb1 HL
  dsimp only
  go_wp2_with fail
  generalize hW2 : World.alloc w1 _ = W2
  have E2 : L1Env w #[.int .i64 W, .int .i64 H, .slice a np cp] W2 := by rw [← hW2]; exact E1.keep (below_alloc _ _)
  have D2 : Blk W2 w1.heap.size #[.int .i64 4, .int .i64 (-4)] 27 := by rw [← hW2]; exact Blk.new _ _ _
  clear hW2 E1 k0 k1 k2 kf klt klt1
  refine (HF.out W2 (HT.out.below E2.below)).mono ?_
  rintro e w3 ⟨rfl, hb3⟩
  have E3 := E2.keep hb3
  have D3 := D2.keep hb3 D2.lt
  obtain ⟨d0, d1, df, dlt⟩ := D3.d2
  have dlt1 : w1.heap.size < w3.heap.size + 1 := by omega
  clear E2 D2 D3 hb3 HF
  dsimp only
  go_wp2_with fail
  refine (searched_any _).mono ?_
  rintro e w4 ⟨rfl, hb4⟩
  have hB := binto E3.below (binto (below_alloc w3 _) hb4)
  dsimp only
  go_wp2_with fail
  go_ret
  exact ⟨rfl, hB⟩

set_option maxRecDepth 100000 in
set_option maxHeartbeats 2000000 in
theorem law2_ok (W H : Int) (a : Option Addr) (np cp : Nat) (tv : Value) (px l : List Int) (s R : Int) (w : World) (h : ImgOk w W H (.slice a np cp) px) (ht : Reads (Value.int .i64) w tv l) (hW : (l.length : Int) = W) (hok : listOk l = true) (hs : 3 ≤ s ∧ s ≤ 6) (hR : R = 53 ∨ R = 85) (hF : leftsFaultF W H np l s R = (0, 0)) :
    Calls Try.prog 4 #[.agg #[.int .i64 W, .int .i64 H, .slice a np cp], tv, .int .i64 s, .int .i64 R] w fun e w' => e = .returned (.bool true) ∧ Below w.heap.size w w' := by
  have hFF := fun wz hz => leftsFault_any W H a np cp tv l s R wz hz
  rw [hF] at hFF
  have HF := Lib.hid hFF
  have HL := Lib.hid (fun wz hI hT => lefts_ok W H a np cp tv px l s R wz hI hT hW hok hs hR)
  have HO := Lib.hid (fun wz hI hT => leftsOf_any W H a np cp tv px l s R wz hI hT hW hok hs hR)
  have HT := Lib.hid ht
  have HI := Lib.hid h
  obtain ⟨ta, tc, rfl, -⟩ := id ht
  clear hFF hF ht h hW hok hs hR
  go_enter Try.func4, Try.ntmps4
  go_wp2_with fail
  refine (HL.out _ (HI.out.below (below_alloc _ _)) (HT.out.below (below_alloc _ _))).mono ?_
  rintro e w1 ⟨o, hE, lv, rfl, hol, hb1⟩
  have E1 : L1Env w #[.int .i64 W, .int .i64 H, .slice a np cp] w1 := ⟨binto (below_alloc w _) hb1, (Blk.new _ _ _).keep hb1 (by simp)⟩
  have hol' : w1.ownsRow (World.alloc w (.cells #[.int .i64 W, .int .i64 H, .slice a np cp] 24)).heap.size 3 1 lv (fillF o).length ((fillF o).map (Value.int .i64)) := by rw [fillF_len]; exact hol
  have hrd := own_reads hol'
  obtain ⟨la, lc, rfl, -⟩ := id hrd
  have HRD := Lib.hid hrd
  have HE := Lib.hid hE
  obtain ⟨k0, k1, k2, kf, klt⟩ := E1.img.d3
  have klt1 : w.heap.size < w1.heap.size + 1 := by omega
  clear hb1 HL hE hol hol' hrd
  dsimp only
  go_wp2_with fail
  generalize hW2 : World.alloc w1 _ = W2
  have hb2 : Below w1.heap.size w1 W2 := by rw [← hW2]; exact below_alloc _ _
  have E2 := E1.keep hb2
  have D2 : Blk W2 w1.heap.size #[.int .i64 0, .int .i64 0] 27 := by rw [← hW2]; exact Blk.new _ _ _
  have hrd2 := HRD.out.below hb2
  clear hW2 hb2 E1 k0 k1 k2 kf klt klt1 HRD
  refine (HF.out W2 (HT.out.below E2.below)).mono ?_
  rintro e w3 ⟨rfl, hb3⟩
  have E3 := E2.keep hb3
  have D3 := D2.keep hb3 D2.lt
  have hrd3 := hrd2.below hb3
  obtain ⟨d0, d1, df, dlt⟩ := D3.d2
  have dlt1 : w1.heap.size < w3.heap.size + 1 := by omega
  obtain ⟨k0, k1, k2, kf, klt⟩ := E3.img.d3
  have klt1 : w.heap.size < w3.heap.size + 1 := by omega
  clear E2 D2 D3 hb3 HF hrd2
  dsimp only
  go_wp2_with fail
  have hbw : Below w.heap.size w (World.alloc w3 (.cells #[.int .i64 0, .int .i64 0] 27)) := binto E3.below (below_alloc w3 _)
  have hrd4 := hrd3.below (below_alloc w3 (.cells #[.int .i64 0, .int .i64 0] 27))
  refine (HO.out _ (HI.out.below hbw) (HT.out.below hbw)).mono ?_
  rintro e w5 ⟨o', hE', u, rfl, hou, hb5⟩
  obtain rfl := HE.out.unique hE'
  rw [← fillF_len] at hou
  have hru := own_reads hou
  have hII := ints_any _ _ (fillF o) (fillF o) w5 (hrd4.below hb5) hru
  rw [show decide (fillF o = fillF o) = true by simp] at hII
  obtain ⟨ua, uc, rfl, -⟩ := id hru
  have HII := Lib.hid hII
  have hB5 := binto hbw hb5
  clear hII hru hou hb5 hE' hrd3 hrd4 HO
  dsimp only
  go_wp2_with fail
  refine HII.out.mono ?_
  rintro e w6 ⟨rfl, hb6⟩
  have hB6 := binto hB5 hb6
  dsimp only
  go_wp2_with fail
  refine (searched_any _).mono ?_
  rintro e w7 ⟨rfl, hb7⟩
  have hB7 := binto hB6 hb7
  dsimp only
  go_wp2_with fail
  go_ret
  exact ⟨rfl, hB7⟩

theorem law2_any (W H : Int) (a : Option Addr) (np cp : Nat) (tv : Value) (px l : List Int) (s R : Int) (w : World) (hr : Reads (Value.int .u8) w (.slice a np cp) px) (hb : ∀ n ∈ px, 0 ≤ n ∧ n ≤ 255) (ht : Reads (Value.int .i64) w tv l) :
    Calls Try.prog 4 #[.agg #[.int .i64 W, .int .i64 H, .slice a np cp], tv, .int .i64 s, .int .i64 R] w fun e w' => e = .returned (.bool true) ∧ Below w.heap.size w w' := by
  rcases imageFault_cases W H np with h | h | h | h
  · by_cases hl : (l.length : Int) = W
    · cases hok : listOk l with
      | false => exact law2_bad4m2 W H a np cp tv l s R w ht (fun wz hz => lefts_list W H a np cp tv l s R wz hz h hl hok) (by simp [leftsFaultF, h, hl, hok])
      | true =>
        cases hs : inB s 3 6 with
        | false => exact law2_bad4m3 W H a np cp tv l s R w ht (fun wz hz => lefts_scale W H a np cp tv l s R wz hz h hl hok hs) (by simp [leftsFaultF, h, hl, hok, hs])
        | true =>
          cases hrb : rowsB R with
          | false => exact law2_bad4m4 W H a np cp tv l s R w ht (fun wz hz => lefts_rows W H a np cp tv l s R wz hz h hl hok hs hrb) (by simp [leftsFaultF, h, hl, hok, hs, hrb])
          | true =>
            have hnp : np = px.length := by obtain ⟨_, _, e, _⟩ := hr; injection e
            obtain ⟨⟨h1, h2⟩, ⟨h3, h4⟩, h5⟩ := imageFault_ok h
            have hs' := hs
            simp only [inB, Bool.and_eq_true, decide_eq_true_eq] at hs'
            have hR : R = 53 ∨ R = 85 := by
              simp only [rowsB, Bool.or_eq_true, beq_iff_eq, decide_eq_true_eq] at hrb
              omega
            exact law2_ok W H a np cp tv px l s R w ⟨h1, h2, h3, h4, by rw [← hnp]; exact h5, hb, hr⟩ ht hl hok hs' hR (by simp [leftsFaultF, h, hl, hok, hs, hrb])
    · exact law2_bad9m2 W H a np cp tv l s R w ht (fun wz hz => lefts_len W H a np cp tv l s R wz hz h hl) (by simp [leftsFaultF, h, hl])
  · exact law2_bad4m1 W H a np cp tv l s R w ht (fun wz hz => lefts_img1 W H a np cp tv l s R wz hz h) (by simp [leftsFaultF, h])
  · exact law2_bad4m2 W H a np cp tv l s R w ht (fun wz hz => lefts_img2 W H a np cp tv l s R wz hz h) (by simp [leftsFaultF, h])
  · exact law2_bad9m3 W H a np cp tv l s R w ht (fun wz hz => lefts_img3 W H a np cp tv l s R wz hz h) (by simp [leftsFaultF, h])

end Go.Proofs.Ytnfgedbcfclnmaa

namespace Go.Proofs.Ytnfgedbcfclnmaa
open Go.ChangeShapes Go.WideShapes Go.ChangeAt Go.RowKit Go.Joins

theorem Try.own : ownKnob Try.prog.godebug = none := by kernel_rfl
theorem Try.laidOut : laidOutB Try.prog = true := by kernel_rfl

section
variable {H : Type} {enc : TypeId × Value → H}
set_option maxRecDepth 100000 in
/-- An image that came in, opened. -/
theorem open_image {W : World} {v : Value} {d : DataW H} {p : List MemPlace} {base : Nat} (hval : Value.okWide Try.prog W .any base 24 v) (h : DataW.Trod enc Try.prog W 0 (fun _ => true) true 24 v d p) :
    ∃ (x y : Int) (a : Option Addr) (np cp : Nat) (px : List Int), v = .agg #[.int .i64 x, .int .i64 y, .slice a np cp] ∧ Reads (Value.int .u8) W (.slice a np cp) px ∧ ∀ n ∈ px, 0 ≤ n ∧ n ≤ 255 := by
  obtain ⟨c0, c1, c2, y0, y1, y2, m, rfl, -, -, hy0, hy1, hy2⟩ := open_agg3 Try.underlying24 (by kernel_rfl) (by kernel_rfl : Try.prog.cellsOf 24 = 3) hval h
  obtain ⟨x, e0, -, -⟩ := DataW.trod_int Try.underlying3 hy0
  obtain ⟨y, e1, -, -⟩ := DataW.trod_int Try.underlying3 hy1
  simp at e0 e1
  subst e0 e1
  rcases open_ints Try.underlying22 Try.underlying5 (by kernel_rfl) hy2 with ⟨hcs, _⟩ | ⟨ad, l, c, zs, hcs, _, hl, hm, hz, _, hcell, hwz⟩
  · simp at hcs
    subst hcs
    exact ⟨x, y, none, 0, 0, [], rfl, ⟨none, 0, rfl, by simp, by simp, .inl rfl⟩, by simp⟩
  · simp at hcs
    subst hcs
    have hz' : zs.length = c := by simpa using hz
    refine ⟨x, y, some ad, l, c, zs.take l, rfl, ?_, fun n hn => ?_⟩
    · rcases Nat.eq_zero_or_pos l with h0 | h0
      · subst h0
        exact ⟨_, _, rfl, by simp, hm, .inl (by simp)⟩
      · obtain ⟨b, off, spot⟩ := ad
        have hc0 := hcell 0 (by omega)
        have hspot : spot = none := by simpa [Addr.add] using World.cell?_spot hc0
        subst hspot
        have htl : (zs.take l).length = l := by simp; omega
        refine ⟨some ⟨b, off, none⟩, c, by rw [htl], by rw [htl]; exact hl, hm, .inr ⟨b, off, rfl, World.block_lt_of_cell? _ _ hc0, fun i x' hx' => ?_⟩⟩
        have hil : i < l := by have := (List.getElem?_eq_some_iff.1 hx').1; omega
        have hci := hcell i (by omega)
        rw [List.getElem?_take_of_lt hil] at hx'
        rw [List.getD, hx'] at hci
        rw [Addr.add_lit] at hci
        exact hci
    · have hw := hwz n (List.mem_of_mem_take hn)
      have hw' : (decide (0 ≤ n) && decide (n ≤ 255)) = true := hw
      simpa using hw'
end

section
variable {H : Type} {enc : TypeId × Value → H}
set_option maxRecDepth 100000 in
/-- A list of numbers that came in, opened, by the reading of its cell. -/
theorem open_list {W : World} {c2 : Value} {y2 : DataW H × List MemPlace} {m : Nat} (hy2 : DataW.trod enc Try.prog W 0 (fun _ => true) true m 25 [c2] = some y2) :
    ∃ l : List Int, Reads (Value.int .i64) W c2 l ∧ ∀ n ∈ l, -9223372036854775808 ≤ n ∧ n ≤ 9223372036854775807 := by
  rcases open_ints Try.underlying25 Try.underlying3 (by kernel_rfl) hy2 with ⟨hcs, _⟩ | ⟨ad, l, c, zs, hcs, _, hl, hm, hz, _, hcell, hwz⟩
  · simp at hcs
    subst hcs
    exact ⟨[], ⟨none, 0, rfl, by simp, by simp, .inl rfl⟩, by simp⟩
  · simp at hcs
    subst hcs
    have hz' : zs.length = c := by simpa using hz
    refine ⟨zs.take l, ?_, fun n hn => ?_⟩
    · rcases Nat.eq_zero_or_pos l with h0 | h0
      · subst h0
        exact ⟨_, _, rfl, by simp, hm, .inl (by simp)⟩
      · obtain ⟨b, off, spot⟩ := ad
        have hc0 := hcell 0 (by omega)
        have hspot : spot = none := by simpa [Addr.add] using World.cell?_spot hc0
        subst hspot
        have htl : (zs.take l).length = l := by simp; omega
        refine ⟨some ⟨b, off, none⟩, c, by rw [htl], by rw [htl]; exact hl, hm, .inr ⟨b, off, rfl, World.block_lt_of_cell? _ _ hc0, fun i x' hx' => ?_⟩⟩
        have hil : i < l := by have := (List.getElem?_eq_some_iff.1 hx').1; omega
        have hci := hcell i (by omega)
        rw [List.getElem?_take_of_lt hil] at hx'
        rw [List.getD, hx'] at hci
        rw [Addr.add_lit] at hci
        exact hci
    · have hw := hwz n (List.mem_of_mem_take hn)
      have hw' : (decide (-9223372036854775808 ≤ n) && decide (n ≤ 9223372036854775807)) = true := hw
      simpa using hw'
end

end Go.Proofs.Ytnfgedbcfclnmaa

namespace Go.Proofs.Ytnfgedbcfclnmaa
open Go.ChangeShapes Go.WideShapes Go.ChangeAt Go.RowKit Go.Joins

set_option maxRecDepth 100000 in
theorem law2_lifted (os : Os) (started : os.Started) (H : Type) (enc : TypeId × Value → H) :
    ReturnsInHanded {} Try.checked os 4 .any (Rows.locateLeftsMatchesSpecSpec.pre6 enc Try.prog Try.f4 Rows.locateLeftsMatchesSpecRow.domain false) (Rows.locateLeftsMatchesSpecSpec.post enc Try.prog Try.f4 false true false false) := by
  refine returnsInHanded_of_change (C := Try.checked) Try.own started (by kernel_rfl) Try.func4
    (ChangeSpec.witness6 (enc := enc) (C := Try.checked) false ⟨#[], #[.agg #[.int .i64 0, .int .i64 0, .slice none 0 0], .slice none 0 0, .int .i64 0, .int .i64 0], []⟩ 8 (by kernel_rfl) (by kernel_rfl) (by kernel_rfl) (by kernel_rfl)) ?_
  intro W base args ds gs before hval0 hW hcnd _
  have hval : ∀ (j : Nat) t v, Try.f4.params[j]? = some t → args[j]? = some v → Value.okWide Try.prog W .any base t v := hval0
  have hW' := hW
  obtain ⟨p, q, hA0, hV, rfl, hfz, hnd⟩ := hW
  have hA : DataW.TrodAll enc Try.prog W 0 (fun _ => true) true Try.f4.params.toList args.toList ds p := hA0
  rw [Try.params4] at hA hval
  obtain ⟨v0, v1, v2, v3, d0, d1, d2, d3, p0, p1, p2, p3, rfl, rfl, rfl, h0, h1, h2, h3⟩ := trodAll_four hA
  obtain ⟨rfl, rfl⟩ := trodVars_none hV
  have k0 := h0
  have k1 := h1
  have lt0 : ∀ x ∈ p0, x.block < W.heap.size := by obtain ⟨m, hm⟩ := k0; exact DataW.trod_lt m _ _ _ hm
  have lt1 : ∀ x ∈ p1, x.block < W.heap.size := by obtain ⟨m, hm⟩ := k1; exact DataW.trod_lt m _ _ _ hm
  obtain ⟨x, y, a, np, cp, px, rfl, hr, hb⟩ := open_image (hval 0 24 v0 rfl rfl) h0
  obtain ⟨a1, len1, cap1, rfl⟩ := okWide_slice Try.underlying25 (hval 1 25 v1 rfl rfl)
  obtain ⟨l, hl, -⟩ : ∃ l : List Int, Reads (Value.int .i64) W (.slice a1 len1 cap1) l ∧ ∀ n ∈ l, -9223372036854775808 ≤ n ∧ n ≤ 9223372036854775807 := by
    obtain ⟨fuel, hf⟩ := h1
    have hf' : DataW.trod enc Try.prog W 0 (fun _ => true) true fuel 25 [.slice a1 len1 cap1] = some (d1, p1) := by simpa [Value.cells] using hf
    exact open_list hf'
  obtain ⟨s, rfl, rfl, rfl, w2⟩ := open_int Try.underlying3 (hval 2 3 v2 rfl rfl) h2
  obtain ⟨R, rfl, rfl, rfl, w3⟩ := open_int Try.underlying3 (hval 3 3 v3 rfl rfl) h3
  clear hA0 hval0
  refine (law2_any x y a np cp _ px l s R W hr hb hl).mono fun e W' ⟨he, bel⟩ => ?_
  subst he
  exact ⟨_, rfl, _, _, _, [], _, [], hW', trodAll_mk1 (shut_bool Try.underlying4 _), trodAll_mk4 (Below.trod Try.laidOut (by kernel_rfl) (of_decide_eq_true (by kernel_rfl)) k0 bel lt0) (Below.trod Try.laidOut (by kernel_rfl) (of_decide_eq_true (by kernel_rfl)) k1 bel lt1) (shut_int Try.underlying3 w2) (shut_int Try.underlying3 w3), rfl, bel.frame _, fun h => by cases h⟩

theorem lefts_holds : Rows.LocateLeftsMatchesSpecSaid :=
  OpenClaim.holds_of_wide 4 Try.f4 rfl rfl rfl rfl rfl rfl rfl ⟨rfl, rfl, rfl, rfl, rfl⟩ rfl rfl rfl rfl rfl (by kernel_rfl) Try.func4 (by kernel_rfl)
    (of_decide_eq_true (by kernel_rfl)) (by unfold Func.isWrapper; rw [if_neg (of_decide_eq_false (by kernel_rfl))]; exact ⟨rfl, rfl⟩)
    (fun os started H enc _ => law2_lifted os started H enc)

end Go.Proofs.Ytnfgedbcfclnmaa
