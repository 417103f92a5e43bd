/- The walk of locate.Agree, for a valid frame. -/
import Derived.Test.YtnfgedbcfclnmaaGreatOpen
set_option linter.unusedVariables false
set_option linter.unusedSimpArgs false
namespace Go.Proofs.YtnfgedbcfclnmaaGreat
open Go.RowKit

def rulerB (L n : Nat) : Bool := (cellF L (n / 58) (n % 58)).1 == 2
def cenK (s : Int) (n : Nat) : Nat := (((n / 58 : Nat) : Int) * s + s / 2).toNat
def cenX (s : Int) (n : Nat) : Int := ((n % 58 : Nat) : Int) * s + s / 2
def agreeB (W H : Int) (px l o : List Int) (s : Int) (L n : Nat) : Bool :=
  rulerB L n && (vThere W H l o s (cenK s n) (cenX s n) && (decide (vShade W H px l o s (cenK s n) (cenX s n) < 128) == ((cellF L (n / 58) (n % 58)).2 == 1)))
def agreeN (W H : Int) (px l o : List Int) (s : Int) (L : Nat) : Nat := (List.range (rowsN L * 58)).countP (agreeB W H px l o s L)
def allN (L : Nat) : Nat := (List.range (rowsN L * 58)).countP (rulerB L)
def levN (R : Int) : Nat := if R = 85 then 2 else 4

theorem countP_succ (p : Nat → Bool) (n : Nat) : (List.range (n + 1)).countP p = (List.range n).countP p + if p n then 1 else 0 := by
  rw [List.range_succ, List.countP_append]
  simp [List.countP_cons]

structure AgEnv (w : World) (iv fv vv : Array Value) (bV g : Nat) (pl : List Value) (wx : World) : Prop where
  below : Below w.heap.size w wx
  img : Blk wx w.heap.size iv 24
  frame : Blk wx (w.heap.size + 1) fv 27
  f : Blk wx (w.heap.size + 1 + 1) #[.int .i64 0, .int .i64 0] 29
  v : Blk wx bV vv 80
  px : LBlk wx g pl 5
  hV : w.heap.size + 1 + 1 < bV
theorem AgEnv.keep {w wx w1 : World} {iv fv vv : Array Value} {bV g : Nat} {pl : List Value} (h : AgEnv w iv fv vv bV g pl wx) (hb : Below wx.heap.size wx w1) : AgEnv w iv fv vv bV g pl w1 :=
  ⟨binto h.below hb, h.img.keep hb h.img.lt, h.frame.keep hb h.frame.lt, h.f.keep hb h.f.lt, h.v.keep hb h.v.lt, h.px.keep hb h.px.lt, h.hV⟩

set_option maxRecDepth 100000 in
set_option maxHeartbeats 4000000 in
theorem agree_ok (W H : Nat) (a : Option Addr) (np cp : Nat) (px : List Int) (t : Nat) (s R : Int) (tv lv : Value) (l o : List Int) (w : World) (h : ImgOk w W H (.slice a np cp) px) (ht8 : t < 8) (ht : Reads (Value.int .i64) w tv l) (hl : Reads (Value.int .i64) w lv o)
    (hs : 3 ≤ s ∧ s ≤ 6) (hR : R = 53 ∨ R = 85) (j : Img) (hj : j = turnI (W, H, px) (invF t).toNat) (hW : (l.length : Int) = j.1) (hlen : (o.length : Int) = R * s) (hok : listOk l = true) (hoo : listOk o = true) :
    Calls Tryz.prog 15 #[.agg #[.int .i64 W, .int .i64 H, .slice a np cp], .agg #[.int .i64 t, .int .i64 s, .int .i64 R, tv, lv]] w fun e w' => e = .returned (.tuple #[.int .i64 (agreeN j.1 j.2.1 j.2.2 l o s (levN R)), .int .i64 (allN (levN R)), .agg #[.int .i64 0, .int .i64 0]]) ∧ Below w.heap.size w w' := by
  have hjo : IOk j := by rw [hj]; exact h.iok.turn _
  have HOP := Lib.hid (fun wz hI hT hL => open_ok W H a np cp px t s R tv lv l o wz hI ht8 hT hL hs hR (by rw [← hj]; exact hW) hlen hok hoo)
  rw [← hj] at HOP
  obtain ⟨L, hL⟩ : ∃ L, L = levN R := ⟨_, rfl⟩
  rw [← hL]
  have hL24 : L = 2 ∨ L = 4 := by rw [hL]; rcases hR with rfl | rfl; (· exact .inr rfl); (· exact .inl rfl)
  have hLR : (rowsN L : Int) = R := by rw [hL]; rcases hR with rfl | rfl <;> rfl
  obtain ⟨M, hM⟩ : ∃ M, M = rowsN L * 58 := ⟨_, rfl⟩
  have hM5 : M ≤ 4930 := by rcases hL24 with rfl | rfl <;> simp [rowsN] at hM <;> omega
  have hMR : IntKind.i64.wrap (R * 58) = (M : Int) := by
    have e : R * 58 = (M : Int) := by omega
    rw [e]; exact IntWalk.i64_in _ (by omega)
  have HLV := Lib.hid (fun pv wz => levels_any j.1 j.2.1 t s R pv tv lv wz hR)
  rw [show (if R = 85 then 2 else 4 : Nat) = L from hL.symm] at HLV
  have HCE := Lib.hid (fun r c wz hr hc => Cell_any L r c wz hL24 hr hc)
  have HCT := Lib.hid (fun g r c wz hI hT hLL hr hc => centre_any j.1 j.2.1 t s R (some ⟨g, 0, none⟩) j.2.2.length j.2.2.length tv lv j.2.2 l o r c wz hI hT hLL hW hok hoo hs hr (by rcases hR with rfl | rfl <;> omega) hlen hc)
  have HI := Lib.hid h
  have HT := Lib.hid ht
  have HL := Lib.hid hl
  have HJO := Lib.hid hjo
  have HLR := Lib.hid hLR
  have HM := Lib.hid hM
  obtain ⟨ta, tc, rfl, -⟩ := id ht
  obtain ⟨la, lc, rfl, -⟩ := id hl
  clear h ht hl hs hR hW hlen hok hoo hj hjo hL hLR hM hL24
  go_enter Tryz.func15, Tryz.ntmps15
  go_wp2_with fail
  generalize hW0 : World.alloc (World.alloc (World.alloc w _) _) _ = W0
  have K0 : Blk W0 w.heap.size #[.int .i64 W, .int .i64 H, .slice a np cp] 24 := by rw [← hW0]; exact ((Blk.new _ _ _).alloc _).alloc _
  have G0 : Blk W0 (w.heap.size + 1) #[.int .i64 t, .int .i64 s, .int .i64 R, .slice ta l.length tc, .slice la o.length lc] 27 := by rw [← hW0]; exact (Blk.newAt _ _ (by simp)).alloc _
  have F0 : Blk W0 (w.heap.size + 1 + 1) #[.int .i64 0, .int .i64 0] 29 := by rw [← hW0]; exact Blk.newAt _ _ (by simp)
  have hB0 : Below w.heap.size w W0 := by rw [← hW0]; exact (by repeat (first | (with_reducible exact Below.refl _ _) | (with_reducible assumption) | ((with_reducible refine Below.setCell ?_ ?_ _); rotate_left; (focus (first | omega | (simp; done) | (simp; omega)))) | (with_reducible refine Below.drew ?_) | (with_reducible refine below_drewN ?_ _) | ((with_reducible refine Below.alloc ?_ ?_ _); rotate_left; (focus (first | omega | (simp; done) | (simp; omega))))))
  clear hW0
  obtain ⟨k0, k1, k2, kf, klt⟩ := K0.d3
  obtain ⟨g0, g1, g2, g3, g4, gf, glt⟩ := G0.d5
  go_wp2_with fail
  refine (HOP.out W0 (HI.out.below hB0) (HT.out.below hB0) (HL.out.below hB0)).mono ?_
  rintro e w1 ⟨g, rfl, hg, hLp, hb1⟩
  have hsz := hb1.size
  have hfl := F0.lt
  have E1 : AgEnv w #[.int .i64 W, .int .i64 H, .slice a np cp] #[.int .i64 t, .int .i64 s, .int .i64 R, .slice ta l.length tc, .slice la o.length lc] #[.int .i64 j.1, .int .i64 j.2.1, .slice (some ⟨g, 0, none⟩) j.2.2.length j.2.2.length, .int .i64 t, .int .i64 s, .int .i64 R, .slice ta l.length tc, .slice la o.length lc] w1.heap.size g (j.2.2.map (Value.int .u8)) (w1.alloc (.cells #[.int .i64 j.1, .int .i64 j.2.1, .slice (some ⟨g, 0, none⟩) j.2.2.length j.2.2.length, .int .i64 t, .int .i64 s, .int .i64 R, .slice ta l.length tc, .slice la o.length lc] 80)) :=
    ⟨(binto hB0 hb1).trans (by repeat (first | (with_reducible exact Below.refl _ _) | (with_reducible assumption) | ((with_reducible refine Below.setCell ?_ ?_ _); rotate_left; (focus (first | omega | (simp; done) | (simp; omega)))) | (with_reducible refine Below.drew ?_) | (with_reducible refine below_drewN ?_ _) | ((with_reducible refine Below.alloc ?_ ?_ _); rotate_left; (focus (first | omega | (simp; done) | (simp; omega)))))), (K0.keep hb1 K0.lt).alloc _, (G0.keep hb1 G0.lt).alloc _, (F0.keep hb1 F0.lt).alloc _, Blk.new _ _ _, hLp.alloc _, by omega⟩
  have g2' := keep hb1 g2 glt
  have glt1 : w.heap.size + 1 < w1.heap.size := by omega
  have glt2 : w.heap.size + 1 < w1.heap.size + 1 := by omega
  clear k0 k1 k2 kf klt K0 G0 F0 hB0 hb1 hLp HOP g0 g1 g2 g3 g4 gf glt
  dsimp only
  go_wp2_with fail
  generalize hW2 : World.alloc (World.alloc w1 _) _ = W2
  obtain ⟨vv, hvv⟩ : ∃ vv : Array Value, vv = #[.int .i64 (j.1 : Int), .int .i64 (j.2.1 : Int), .slice (some ⟨g, 0, none⟩) j.2.2.length j.2.2.length, .int .i64 (t : Int), .int .i64 s, .int .i64 R, .slice ta l.length tc, .slice la o.length lc] := ⟨_, rfl⟩
  have E2 : AgEnv w #[.int .i64 W, .int .i64 H, .slice a np cp] #[.int .i64 t, .int .i64 s, .int .i64 R, .slice ta l.length tc, .slice la o.length lc] vv w1.heap.size g (j.2.2.map (Value.int .u8)) W2 := by
    rw [← hW2, hvv]; exact E1.keep (by repeat (first | (with_reducible exact Below.refl _ _) | (with_reducible assumption) | ((with_reducible refine Below.setCell ?_ ?_ _); rotate_left; (focus (first | omega | (simp; done) | (simp; omega)))) | (with_reducible refine Below.drew ?_) | (with_reducible refine below_drewN ?_ _) | ((with_reducible refine Below.alloc ?_ ?_ _); rotate_left; (focus (first | omega | (simp; done) | (simp; omega))))))
  obtain ⟨bV, hbV⟩ : ∃ bV, bV = w1.heap.size := ⟨_, rfl⟩
  rw [← hbV] at E2 ⊢
  have HVV := Lib.hid hvv
  clear hW2 E1 g2' glt1 glt2 hbV hvv hsz hfl hg
  go_loopw [9, 10, 14, 15, 31] (fun x y _ _ z wr => ∃ n : Nat, z = .int .i64 n ∧ n ≤ M ∧ x = .int .i64 (((List.range n).countP (agreeB j.1 j.2.1 j.2.2 l o s L) : Nat) : Int) ∧ y = .int .i64 (((List.range n).countP (rulerB L) : Nat) : Int) ∧ AgEnv w #[.int .i64 W, .int .i64 H, .slice a np cp] #[.int .i64 t, .int .i64 s, .int .i64 R, .slice ta l.length tc, .slice la o.length lc] vv bV g (j.2.2.map (Value.int .u8)) wr) (fun _ _ _ _ z _ => M - (intOf z).toNat)
  case atStart => exact ⟨0, rfl, by omega, rfl, rfl, E2⟩
  case round =>
    clear E2
    obtain ⟨n, rfl, hn, rfl, rfl, E⟩ := hrel
    obtain ⟨wb, rfl⟩ : ∃ wo : World, wo = wr := ⟨_, rfl⟩
    by_cases hnM : n < M
    · have hd1 : decide ((n : Int) < (M : Int)) = true := by simp; omega
      obtain ⟨cA, hcA⟩ : ∃ c, c = (List.range n).countP (agreeB j.1 j.2.1 j.2.2 l o s L) := ⟨_, rfl⟩
      obtain ⟨cB, hcB⟩ : ∃ c, c = (List.range n).countP (rulerB L) := ⟨_, rfl⟩
      have hA1 := countP_succ (agreeB j.1 j.2.1 j.2.2 l o s L) n
      have hB1 := countP_succ (rulerB L) n
      rw [← hcA] at hA1 ⊢
      rw [← hcB] at hB1 ⊢
      have hcA5 : cA ≤ n := by rw [hcA]; exact Nat.le_trans List.countP_le_length (by simp)
      have hcB5 : cB ≤ n := by rw [hcB]; exact Nat.le_trans List.countP_le_length (by simp)
      obtain ⟨r, hr⟩ : ∃ r, r = n / 58 := ⟨_, rfl⟩
      obtain ⟨c, hc⟩ : ∃ c, c = n % 58 := ⟨_, rfl⟩
      have hc58 : c < 58 := by omega
      have hrL : r < rowsN L := by rw [hr]; have := HM.out; omega
      have f1 : Int.tdiv (n : Int) 58 = (r : Int) := by rw [hr]; rfl
      have f2 : Int.tmod (n : Int) 58 = (c : Int) := by rw [hc]; rfl
      have f3 : IntKind.i64.wrap (r : Int) = r := IntWalk.i64_in _ (by omega)
      have f4 : IntKind.i64.wrap (c : Int) = c := IntWalk.i64_in _ (by omega)
      have hce := HCE.out r c
      have hct := fun wz hI hT hL => HCT.out g r c wz hI hT hL (by have := HLR.out; omega) hc58
      have hag : agreeB j.1 j.2.1 j.2.2 l o s L n = ((cellF L r c).1 == 2 && (vThere j.1 j.2.1 l o s ((r : Int) * s + s / 2).toNat ((c : Int) * s + s / 2) && (decide (vShade j.1 j.2.1 j.2.2 l o s ((r : Int) * s + s / 2).toNat ((c : Int) * s + s / 2) < 128) == ((cellF L r c).2 == 1)))) := by rw [hr, hc]; rfl
      have hru : rulerB L n = ((cellF L r c).1 == 2) := by rw [hr, hc]; rfl
      obtain ⟨z, hz⟩ : ∃ z, z = cellF L r c := ⟨_, rfl⟩
      rw [← hz] at hce hag hru
      obtain ⟨sh, hsh⟩ : ∃ sh, sh = vShade j.1 j.2.1 j.2.2 l o s ((r : Int) * s + s / 2).toNat ((c : Int) * s + s / 2) := ⟨_, rfl⟩
      rw [← hsh] at hct hag
      obtain ⟨z1, z2⟩ := z
      dsimp only at hce hag hru
      obtain ⟨tb, htb⟩ : ∃ tb, tb = vThere j.1 j.2.1 l o s ((r : Int) * s + s / 2).toNat ((c : Int) * s + s / 2) := ⟨_, rfl⟩
      rw [← htb] at hct hag
      rw [hag] at hA1
      rw [hru] at hB1
      have HCE1 := Lib.hid hce
      have HCT1 := Lib.hid hct
      have HRL := Lib.hid hrL
      have V := E.v
      rw [HVV.out] at V
      obtain ⟨v0, v1, v2, v3, v4, v5, v6, v7, vf, vlt⟩ := V.d8
      have hw1 : IntKind.i64.wrap ((cA : Int) + 1) = ((cA + 1 : Nat) : Int) := by rw [IntWalk.i64_in _ (by omega)]; omega
      have hw2 : IntKind.i64.wrap ((cB : Int) + 1) = ((cB + 1 : Nat) : Int) := by rw [IntWalk.i64_in _ (by omega)]; omega
      clear hce hct hag hru hz hsh htb hcA hcB hr hc V hrL
      have HA0 := Lib.hid hA1
      have HB0 := Lib.hid hB1
      clear hA1 hB1
      go_wp2_with fail
      refine (HLV.out _ wb).mono ?_
      rintro e w3 ⟨rfl, hb3⟩
      have E3 := E.keep hb3
      clear E hb3 v0 v1 v2 v3 v4 v5 v6 v7 vf vlt
      dsimp only
      go_wp2_with fail
      refine (HCE1.out w3 HRL.out hc58).mono ?_
      rintro e w4 ⟨rfl, hb4⟩
      have E4 := E3.keep hb4
      clear E3 hb4
      dsimp only
      by_cases hz1 : z1 = 2
      · subst hz1
        have V := E4.v
        rw [HVV.out] at V
        obtain ⟨v0, v1, v2, v3, v4, v5, v6, v7, vf, vlt⟩ := V.d8
        have vlt1 : bV < w4.heap.size + 1 := by omega
        clear V
        go_wp2_with fail
        generalize hW5 : World.alloc (World.alloc w4 _) _ = W5
        have C5 : Blk W5 w4.heap.size #[.int .i64 2, .int .i64 z2] 84 := by rw [← hW5]; exact (Blk.new _ _ _).alloc _
        have E5 : AgEnv w #[.int .i64 W, .int .i64 H, .slice a np cp] #[.int .i64 t, .int .i64 s, .int .i64 R, .slice ta l.length tc, .slice la o.length lc] vv bV g (j.2.2.map (Value.int .u8)) W5 := by rw [← hW5]; exact E4.keep (by repeat (first | (with_reducible exact Below.refl _ _) | (with_reducible assumption) | ((with_reducible refine Below.setCell ?_ ?_ _); rotate_left; (focus (first | omega | (simp; done) | (simp; omega)))) | (with_reducible refine Below.drew ?_) | (with_reducible refine below_drewN ?_ _) | ((with_reducible refine Below.alloc ?_ ?_ _); rotate_left; (focus (first | omega | (simp; done) | (simp; omega))))))
        clear hW5 E4 v0 v1 v2 v3 v4 v5 v6 v7 vf vlt vlt1
        refine (HCT1.out W5 (HJO.out.imgL E5.px) (HT.out.below E5.below) (HL.out.below E5.below)).mono ?_
        rintro e w6 ⟨rfl, hb6⟩
        have E6 := E5.keep hb6
        have C6 := C5.keep hb6 C5.lt
        obtain ⟨c0, c1, cf, clt⟩ := C6.d2
        clear E5 C5 hb6
        have hB : (List.range (n + 1)).countP (rulerB L) = cB + 1 := by rw [HB0.out]; simp
        have HB := Lib.hid hB
        clear hB HB0
        cases tb with
        | false =>
          have hA : (List.range (n + 1)).countP (agreeB j.1 j.2.1 j.2.2 l o s L) = cA := by rw [HA0.out]; simp [*]
          have HA := Lib.hid hA
          clear hA HA0
          dsimp only
          go_wp2_with fail
          go_roundw
          case rel => exact ⟨n + 1, by go_num, by omega, by rw [HA.out], by rw [HB.out]; simp, E6⟩
          case measure => simp [intOf]; omega
        | true =>
          by_cases hsh : sh < 128
          · have hs1 : decide (sh < 128) = true := by simpa using hsh
            by_cases hz2 : z2 = 1
            · subst hz2
              have hA : (List.range (n + 1)).countP (agreeB j.1 j.2.1 j.2.2 l o s L) = cA + 1 := by rw [HA0.out]; simp [*]
              have HA := Lib.hid hA
              clear hA HA0
              dsimp only
              go_wp2_with fail
              go_roundw
              case rel => exact ⟨n + 1, by go_num, by omega, by rw [HA.out]; simp, by rw [HB.out]; simp, E6⟩
              case measure => simp [intOf]; omega
            · have hzb : (z2 == 1) = false := by simpa using hz2
              have hA : (List.range (n + 1)).countP (agreeB j.1 j.2.1 j.2.2 l o s L) = cA := by rw [HA0.out]; simp [*]
              have HA := Lib.hid hA
              clear hA HA0
              dsimp only
              go_wp2_with fail
              go_roundw
              case rel => exact ⟨n + 1, by go_num, by omega, by rw [HA.out], by rw [HB.out]; simp, E6⟩
              case measure => simp [intOf]; omega
          · have hs1 : decide (sh < 128) = false := by simpa using hsh
            by_cases hz2 : z2 = 1
            · subst hz2
              have hA : (List.range (n + 1)).countP (agreeB j.1 j.2.1 j.2.2 l o s L) = cA := by rw [HA0.out]; simp [*]
              have HA := Lib.hid hA
              clear hA HA0
              dsimp only
              go_wp2_with fail
              go_roundw
              case rel => exact ⟨n + 1, by go_num, by omega, by rw [HA.out], by rw [HB.out]; simp, E6⟩
              case measure => simp [intOf]; omega
            · have hzb : (z2 == 1) = false := by simpa using hz2
              have hA : (List.range (n + 1)).countP (agreeB j.1 j.2.1 j.2.2 l o s L) = cA + 1 := by rw [HA0.out]; simp [*]
              have HA := Lib.hid hA
              clear hA HA0
              dsimp only
              go_wp2_with fail
              go_roundw
              case rel => exact ⟨n + 1, by go_num, by omega, by rw [HA.out]; simp, by rw [HB.out]; simp, E6⟩
              case measure => simp [intOf]; omega
      · have hzb : (z1 != 2) = true := by simpa using hz1
        have hz2 : (z1 == 2) = false := by simpa using hz1
        have hA : (List.range (n + 1)).countP (agreeB j.1 j.2.1 j.2.2 l o s L) = cA := by rw [HA0.out, hz2]; simp
        have hB : (List.range (n + 1)).countP (rulerB L) = cB := by rw [HB0.out, hz2]; simp
        have HA := Lib.hid hA
        have HB := Lib.hid hB
        clear hA hB hz1 hz2
        go_wp2_with fail
        go_roundw
        case rel => exact ⟨n + 1, by go_num, by omega, by rw [HA.out], by rw [HB.out], E4.keep (by repeat (first | (with_reducible exact Below.refl _ _) | (with_reducible assumption) | ((with_reducible refine Below.setCell ?_ ?_ _); rotate_left; (focus (first | omega | (simp; done) | (simp; omega)))) | (with_reducible refine Below.drew ?_) | (with_reducible refine below_drewN ?_ _) | ((with_reducible refine Below.alloc ?_ ?_ _); rotate_left; (focus (first | omega | (simp; done) | (simp; omega))))))⟩
        case measure => simp [intOf]; omega
    · obtain rfl : n = M := by omega
      have hA : agreeN j.1 j.2.1 j.2.2 l o s L = (List.range n).countP (agreeB j.1 j.2.1 j.2.2 l o s L) := by rw [agreeN, ← HM.out]
      have hB : allN L = (List.range n).countP (rulerB L) := by rw [allN, ← HM.out]
      generalize (List.range n).countP (agreeB j.1 j.2.1 j.2.2 l o s L) = cA at *
      generalize (List.range n).countP (rulerB L) = cB at *
      have HA := Lib.hid hA
      have HB := Lib.hid hB
      obtain ⟨f0, f1, ff, flt⟩ := E.f.d2
      have hBl := E.below
      clear hA hB
      go_wp2_with fail
      exact bodyPost_ret (v := .tuple #[.int .i64 cA, .int .i64 cB, .agg #[.int .i64 0, .int .i64 0]]) (by simp [results, Tryz.results15, go_sem, f0, f1, ff, flt]) rfl ⟨by rw [HA.out, HB.out], (by repeat (first | (with_reducible exact Below.refl _ _) | (with_reducible assumption) | ((with_reducible refine Below.setCell ?_ ?_ _); rotate_left; (focus (first | omega | (simp; done) | (simp; omega)))) | (with_reducible refine Below.drew ?_) | (with_reducible refine below_drewN ?_ _) | ((with_reducible refine Below.alloc ?_ ?_ _); rotate_left; (focus (first | omega | (simp; done) | (simp; omega))))))⟩

end Go.Proofs.YtnfgedbcfclnmaaGreat
