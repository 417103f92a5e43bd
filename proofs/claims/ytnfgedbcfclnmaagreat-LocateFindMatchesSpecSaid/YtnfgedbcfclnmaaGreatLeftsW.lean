/- The walk of locate.Lefts, for valid arguments. -/
import Derived.Test.YtnfgedbcfclnmaaGreatEdge
import Derived.Test.YtnfgedbcfclnmaaGreatRep
import Derived.Test.YtnfgedbcfclnmaaGreatFill
import Derived.Test.YtnfgedbcfclnmaaGreatColW
set_option linter.unusedVariables false
set_option linter.unusedSimpArgs false
namespace Go.Proofs.YtnfgedbcfclnmaaGreat
open Go.RowKit

theorem ptsTo_none {vals : List Int} (h : ∀ i, i < vals.length → vals.getD i 0 < 0) {k : Nat} (hk : k ≤ vals.length) : ptsTo vals k = [] := by
  rw [List.eq_nil_iff_forall_not_mem]
  intro a ha
  obtain ⟨i, h1, h2, -⟩ := ptsTo_mem ha
  have := h i (by omega)
  omega
theorem fillF_rep (N : Nat) : fillF (List.replicate N (-1)) = List.replicate N (-1) := by
  have hall : ∀ i, i < (List.replicate N (-1 : Int)).length → (List.replicate N (-1 : Int)).getD i 0 < 0 := fun i hi => by
    simp at hi; simp [List.getD, hi]
  apply List.ext_getElem
  · simp [fillF]
  · intro i h1 h2
    have hi : i < N := by simpa using h2
    simp only [fillF, List.getElem_map, List.getElem_range, List.getElem_replicate, fillV]
    rw [if_neg (by have := hall i (by simpa using hi); omega), ptsTo_none hall (Nat.le_refl _)]
    exact fillAt_none fun v hv => by
      obtain ⟨c, i, j, p, q, hp, -⟩ := hv.2.2.1
      simp at hp

theorem rep_next {α : Type} (o : List α) {N k : Nat} (z : α) (hk : k < N) : o ++ List.replicate (N - k) z = (o ++ [z]) ++ List.replicate (N - (k + 1)) z := by
  have e : N - k = (N - (k + 1)) + 1 := by omega
  rw [e, List.replicate_succ]; simp
theorem own_rep {w : World} {g N base : Nat} (h : LBlk w g ((List.replicate N (-1)).map (Value.int .i64)) 3) (hN : N ≤ 1000) (hb : base ≤ g) : w.ownsRow base 3 1 (.slice (some ⟨g, 0, none⟩) N N) N ((List.replicate N (-1)).map (Value.int .i64)) :=
  h.own (by simp) hb (Nat.le_trans hN (by decide))

theorem grown_set (w : World) (a : Addr) (u : Value) : w.grownBy (w.setCell a u) (some a.block) :=
  ⟨rfl, rfl, rfl, by simp, fun k _ hk => heap_setCell_other w a k u (fun e => hk (by rw [e]))⟩
theorem own_set {w : World} {base : Nat} {e : TypeId} {size : Nat} {v : Value} {n : Nat} {xs : List Value} (h : w.ownsRow base e size v n xs) {b o : Nat} (hb : b < base) (u : Value) : (w.setCell ⟨b, o, none⟩ u).ownsRow base e size v n xs :=
  h.kept (row := some b) (grown_set _ _ _) (.inr fun he => own_ne h hb he.symm)

theorem own_base {w : World} {base base' : Nat} {e : TypeId} {size : Nat} {v : Value} {n : Nat} {xs : List Value} (h : w.ownsRow base e size v n xs) (hb : base' ≤ base) : w.ownsRow base' e size v n xs :=
  ⟨h.1, h.2.imp id fun ⟨g, cap, cur, h1, h2, h3⟩ => ⟨g, cap, cur, h1, Nat.le_trans hb h2, h3⟩⟩

theorem lblk_reads {w : World} {g : Nat} {l : List Int} {t : TypeId} (h : LBlk w g (l.map (Value.int .i64)) t) (hm : l.length ≤ maxLen) : Reads (Value.int .i64) w (.slice (some ⟨g, 0, none⟩) l.length l.length) l :=
  ⟨_, _, rfl, Nat.le_refl _, hm, .inr ⟨g, 0, rfl, h.lt, fun i x hx => by rw [Nat.zero_add]; exact h.cell (by simp [hx])⟩⟩

def LeftsRet (W H : Int) (px l : List Int) (s R : Int) (w : World) (e : Ending) (w' : World) : Prop :=
  ∃ o, EdgesAre W H px l s R o ∧ ∃ v, e = .returned (.tuple #[v, .agg #[.int .i64 0, .int .i64 0]]) ∧ w'.ownsRow w.heap.size 3 1 v o.length ((fillF o).map (Value.int .i64)) ∧ Below w.heap.size w w'

structure LeEnv (w : World) (W H : Int) (pv : Value) (g : Nat) (cur : List Int) (wx : World) : Prop where
  below : Below w.heap.size w wx
  img : Blk wx w.heap.size #[.int .i64 W, .int .i64 H, pv] 24
  res : Blk wx (w.heap.size + 1) #[.int .i64 0, .int .i64 0] 29
  out : LBlk wx g (cur.map (Value.int .i64)) 3
  hg : w.heap.size + 1 < g
theorem LeEnv.keep {w wx w1 : World} {W H : Int} {pv : Value} {g : Nat} {cur : List Int} (h : LeEnv w W H pv g cur wx) (hb : Below wx.heap.size wx w1) : LeEnv w W H pv g cur w1 :=
  ⟨binto h.below hb, h.img.keep hb h.img.lt, h.res.keep hb h.res.lt, h.out.keep hb h.out.lt, h.hg⟩
theorem LeEnv.set {w wx : World} {W H : Int} {pv : Value} {g : Nat} {cur : List Int} (h : LeEnv w W H pv g cur wx) (i : Nat) (v : Int) : LeEnv w W H pv g (cur.set i v) (wx.setCell ⟨g, i, none⟩ (.int .i64 v)) := by
  have hg := h.hg
  refine ⟨h.below.setCell (show w.heap.size ≤ g by omega) _, h.img.set_other (by simp; omega) _, h.res.set_other (by simp; omega) _, ?_, hg⟩
  rw [List.map_set]
  exact h.out.set _

theorem dAt_shade {W H : Int} {px l : List Int} {bs : Int} {k n : Nat} (h : tAt W H l bs k n = true) (hok : listOk l = true) (hW : (l.length : Int) = W) : dAt W H px l bs k n = decide (shadeF W H px l (bs + n) k < 128) := by
  have h' : thereB W H l (bs + n) k = true := h
  simp only [dAt, shadeF, h', if_true]
  simp only [thereB, Bool.and_eq_true, decide_eq_true_eq] at h'
  obtain ⟨⟨h1, h2⟩, h3⟩ := h'
  have h4 : inB (l.getD (bs + n).toNat 0 + k) 0 (H - 1) = true := by
    simp only [inB, Bool.and_eq_true, decide_eq_true_eq]; omega
  unfold pixF
  rw [h1, h4]
  rfl

set_option maxRecDepth 100000 in
set_option maxHeartbeats 4000000 in
theorem lefts_ok (W H : Int) (a : Option Addr) (np cp : Nat) (tv : Value) (px l : List Int) (s R : Int) (w : World) (h : ImgOk w W H (.slice a np cp) px) (ht : Reads (Value.int .i64) w tv l) (hW : (l.length : Int) = W) (hok : listOk l = true) (hs : 3 ≤ s ∧ s ≤ 6) (hR : R = 53 ∨ R = 85) :
    Calls Tryz.prog 14 #[.agg #[.int .i64 W, .int .i64 H, .slice a np cp], tv, .int .i64 s, .int .i64 R] w (LeftsRet W H px l s R w) := by
  have h1 := h.w1
  have h2 := h.w2
  have h3 := h.h1
  have h4 := h.h2
  subst hW
  obtain ⟨hs1, hs2⟩ := hs
  obtain ⟨N, hN⟩ : ∃ N : Nat, R * s = N := ⟨(R * s).toNat, by rcases hR with rfl | rfl <;> omega⟩
  have hN1 : 159 ≤ N ∧ N ≤ 510 := by rcases hR with rfl | rfl <;> omega
  have hwr : IntKind.i64.wrap (R * s) = (N : Int) := by rw [hN]; exact IntWalk.i64_in _ (by omega)
  have hrb : rowsB R = true := by rcases hR with rfl | rfl <;> rfl
  have hsb : inB s 3 6 = true := by simp only [inB, Bool.and_eq_true, decide_eq_true_eq]; omega
  have hnp : np = px.length := by obtain ⟨_, _, e, _⟩ := h.rd; injection e
  have hV := validate_any l.length H a np cp
  rw [imageFaultF_ok h1 h2 h3 h4 (by rw [hnp]; exact h.len)] at hV
  have HV := Lib.hid hV
  have HL := Lib.hid (fun wz hz => (validList_any tv l wz hz))
  have hSC := validScale_any s
  rw [hsb] at hSC
  have HSC := Lib.hid hSC
  have hRW := validRows_any R
  rw [hrb] at hRW
  have HRW := Lib.hid hRW
  have HT := Lib.hid ht
  have HOK := Lib.hid hok
  have HI := Lib.hid h
  have HN := Lib.hid hN
  obtain ⟨ta, tc, rfl, -⟩ := id ht
  clear hV hSC hRW ht hok h hR hnp hrb hsb hN
  go_enter Tryz.func14, Tryz.ntmps14
  go_wp2_with fail
  generalize hW0 : World.alloc (World.alloc w _) _ = W0
  have K0 : Blk W0 w.heap.size #[.int .i64 l.length, .int .i64 H, .slice a np cp] 24 := by rw [← hW0]; exact (Blk.new _ _ _).alloc _
  have R0 : Blk W0 (w.heap.size + 1) #[.int .i64 0, .int .i64 0] 29 := by rw [← hW0]; exact Blk.newAt _ _ (by simp)
  have hB0 : Below w.heap.size w W0 := by rw [← hW0]; exact (by repeat (first | (with_reducible exact Below.refl _ _) | (with_reducible assumption) | ((with_reducible refine Below.setCell ?_ ?_ _); rotate_left; (focus (first | omega | (simp; done) | (simp; omega)))) | (with_reducible refine Below.drew ?_) | (with_reducible refine below_drewN ?_ _) | ((with_reducible refine Below.alloc ?_ ?_ _); rotate_left; (focus (first | omega | (simp; done) | (simp; omega))))))
  clear hW0
  refine (HV.out W0).mono ?_
  rintro e w1 ⟨rfl, hb1⟩
  have K1 := K0.keep hb1 K0.lt
  have R1 := R0.keep hb1 R0.lt
  have hB1 := binto hB0 hb1
  obtain ⟨k0, k1, k2, kf, klt⟩ := K1.d3
  have rlt := R1.lt
  clear K0 R0 hB0 hb1 HV
  go_wp2_with fail
  generalize hW2 : World.alloc w1 _ = W2
  have K2 : Blk W2 w.heap.size #[.int .i64 l.length, .int .i64 H, .slice a np cp] 24 := by rw [← hW2]; exact K1.alloc _
  have R2 : Blk W2 (w.heap.size + 1) #[.int .i64 0, .int .i64 0] 29 := by rw [← hW2]; exact R1.alloc _
  have hB2 : Below w.heap.size w W2 := by rw [← hW2]; exact hB1.trans (by repeat (first | (with_reducible exact Below.refl _ _) | (with_reducible assumption) | ((with_reducible refine Below.setCell ?_ ?_ _); rotate_left; (focus (first | omega | (simp; done) | (simp; omega)))) | (with_reducible refine Below.drew ?_) | (with_reducible refine below_drewN ?_ _) | ((with_reducible refine Below.alloc ?_ ?_ _); rotate_left; (focus (first | omega | (simp; done) | (simp; omega))))))
  clear hW2 k0 k1 k2 kf klt rlt K1 R1 hB1
  refine (HL.out W2 (HT.out.below hB2)).mono ?_
  rintro e w3 ⟨rfl, hb3⟩
  rw [HOK.out]
  have K3 := K2.keep hb3 K2.lt
  have R3 := R2.keep hb3 R2.lt
  have hB3 := binto hB2 hb3
  clear K2 R2 hB2 hb3 HL
  go_wp2_with (go_at_call 43; refine (HSC.out _).mono ?_; rintro e w' ⟨rfl, rfl⟩)
  refine (HRW.out w3).mono ?_
  rintro e w4 ⟨rfl, hb4⟩
  have K4 := K3.keep hb4 K3.lt
  have R4 := R3.keep hb4 R3.lt
  have hB4 := binto hB3 hb4
  clear K3 R3 hB3 hb4 HRW HSC
  go_wp2_with fail
  refine (repeatI (x := -1) (N := N) (Blk.new _ _ _) (by omega) (by omega)).mono ?_
  rintro e w5 ⟨g, he, hge, hT, hb5⟩
  rw [List.length_replicate] at he
  subst he
  have hT5 : LBlk w5 g ((List.replicate N (-1)).map (Value.int .i64)) 3 := by rw [List.map_replicate]; exact hT
  have hrl := R4.lt
  have hb5' := binto (below_alloc w4 _) hb5
  have E5 : LeEnv w l.length H (.slice a np cp) g (List.replicate N (-1)) w5 := ⟨binto hB4 hb5', K4.keep hb5' K4.lt, R4.keep hb5' R4.lt, hT5, by simp at hge; omega⟩
  clear K4 R4 hB4 hb5 hT hT5 hge hrl hb5'
  dsimp only
  go_wp2_with fail
  refine (indexU_any _ l w5 (HT.out.below E5.below)).mono ?_
  rintro e w6 ⟨r, hr, rfl, hb6⟩
  have E6 := E5.keep hb6
  clear E5 hb6
  have HLT := fun i hi => listOk_get HOK.out (i := i) hi
  rcases hr with ⟨rfl, hall⟩ | ⟨f, rfl, hf, hft, hfn⟩
  · have hE : EdgesAre l.length H px l s R (List.replicate N (-1)) := by
      refine ⟨by rw [List.length_replicate]; exact HN.out.symm, l.length, ⟨Nat.le_refl _, fun j hj => ?_, fun hlt => by omega⟩, fun k hk => ?_⟩
      · have e1 := hall j hj
        have e2 := HLT j hj
        have e3 : l.getD j 0 = -1 := by unfold nunk at e1; simpa using e1
        omega
      · have e3 : tAt l.length H l ((l.length : Nat) + s) k 0 = false := by
          simp [tAt, thereB, inB]; omega
        refine ⟨0, by omega, fun m hm => by omega, fun _ => by rw [e3]; rfl, ?_⟩
        rw [if_neg (by omega)]
        simp at hk
        simp [List.getD, hk]
    have HE := Lib.hid hE
    obtain ⟨r0, r1, rf, rlt⟩ := E6.res.d2
    have hlen : (List.replicate N (-1 : Int)).length = N := List.length_replicate ..
    clear hE hall HLT
    go_wp2_with fail
    refine bodyPost_ret (v := .tuple #[.slice (some ⟨g, 0, none⟩) N N, .agg #[.int .i64 0, .int .i64 0]]) (by simp [results, Tryz.results14, go_sem, r0, r1, rf, rlt]) rfl ?_
    refine ⟨_, HE.out, _, rfl, ?_, ?_⟩
    · rw [fillF_rep, hlen]
      exact own_rep ((E6.out.set_other (by simp; have := E6.hg; omega) _).set_other (by simp; have := E6.hg; omega) _) (by omega) (by have := E6.hg; omega)
    · have hb := E6.below
      exact (by repeat (first | (with_reducible exact Below.refl _ _) | (with_reducible assumption) | ((with_reducible refine Below.setCell ?_ ?_ _); rotate_left; (focus (first | omega | (simp; done) | (simp; omega)))) | (with_reducible refine Below.drew ?_) | (with_reducible refine below_drewN ?_ _) | ((with_reducible refine Below.alloc ?_ ?_ _); rotate_left; (focus (first | omega | (simp; done) | (simp; omega))))))
  · have hFT : FirstTop l f := ⟨by omega, fun j hj => by
        have e1 := hfn j hj
        have e2 := HLT j (by omega)
        have e3 : l.getD j 0 = -1 := by unfold nunk at e1; simpa using e1
        omega, fun _ => by
        have e2 := HLT f hf
        have e3 : l.getD f 0 ≠ -1 := by unfold nunk at hft; simpa using hft
        omega⟩
    have HFT := Lib.hid hFT
    obtain ⟨bs, hbs⟩ : ∃ bs : Int, bs = f + s := ⟨_, rfl⟩
    have hw1 : IntKind.i64.wrap ((f : Int) + s) = bs := by rw [hbs]; exact IntWalk.i64_in _ (by omega)
    have hw2 : IntKind.i64.wrap (4 * s) = 4 * s := IntWalk.i64_in _ (by omega)
    have hw3 : IntKind.i64.wrap (bs + 4 * s) = bs + 4 * s := IntWalk.i64_in _ (by omega)
    have hbb : 3 ≤ bs ∧ bs ≤ 650 := by omega
    have hfd : decide ((f : Int) < 0) = false := by simp
    have hlen : (List.replicate N (-1 : Int)).length = N := List.length_replicate ..
    have HBS := Lib.hid hbs
    clear hFT hfn hft HLT hbs
    go_wp2_with fail
    go_loopw [61] (fun x wr => ∃ (k : Nat) (o : List Int), x = .int .i64 k ∧ k ≤ N ∧ o.length = k ∧ Hid (∀ j : Nat, j < k → EdgeIs (tAt l.length H l bs j) (dAt l.length H px l bs j) (4 * s).toNat bs (o.getD j 0)) ∧ LeEnv w l.length H (.slice a np cp) g (o ++ List.replicate (N - k) (-1)) wr) (fun x _ => N - (intOf x).toNat)
    case atStart => exact ⟨0, [], rfl, by omega, rfl, fun j hj => by omega, E6⟩
    case round =>
      clear E6
      obtain ⟨k, o, rfl, hk, hol, hed, E⟩ := hrel
      obtain ⟨wb, rfl⟩ : ∃ wo : World, wo = wr := ⟨_, rfl⟩
      by_cases hkN : k < N
      · have hd1 : decide ((k : Int) < (N : Int)) = true := by simp; omega
        have HED : ∀ v, EdgeIs (tAt l.length H l bs k) (dAt l.length H px l bs k) (4 * s).toNat bs v → Hid (∀ j : Nat, j < k + 1 → EdgeIs (tAt l.length H l bs j) (dAt l.length H px l bs j) (4 * s).toNat bs ((o ++ [v]).getD j 0)) := fun v hv j hj => by
          rcases Nat.lt_or_ge j k with g' | g'
          · have := hed.out j g'
            simpa [List.getD, List.getElem?_append_left (show j < o.length by omega)] using this
          · obtain rfl : j = k := by omega
            simpa [List.getD, ← hol] using hol ▸ hv
        have HED := Lib.hid HED
        clear hed
        go_wp2_with fail
        go_loopw [14] (fun x wr => ∃ n : Nat, x = .int .i64 (bs + n) ∧ (n : Int) ≤ 4 * s + 1 ∧ Hid (∀ m, m < n → tAt l.length H l bs k m = true ∧ dAt l.length H px l bs k m = true) ∧ LeEnv w l.length H (.slice a np cp) g (o ++ List.replicate (N - k) (-1)) wr) (fun x _ => (bs + 4 * s + 1 - intOf x).toNat)
        case atStart => exact ⟨0, by simp, by omega, fun m hm => by omega, E⟩
        case round =>
          clear E
          obtain ⟨n, rfl, hn, hall, E⟩ := hrel
          obtain ⟨wc, rfl⟩ : ∃ wo : World, wo = wr := ⟨_, rfl⟩
          by_cases hn4 : (n : Int) ≤ 4 * s
          · have hd2 : decide (bs + (n : Int) ≤ bs + 4 * s) = true := by simp; omega
            have hadd : IntKind.i64.wrap (bs + (n : Int) + 1) = bs + ((n + 1 : Nat) : Int) := by rw [IntWalk.i64_in _ (by omega)]; omega
            obtain ⟨k0, k1, k2, kf, klt⟩ := E.img.d3
            have hPX := fun wz hI hT => lpixel_any l.length H (.slice a np cp) (.slice ta l.length tc) px l k (bs + n) wz hI hT rfl HOK.out ⟨by omega, by omega⟩ ⟨by omega, by omega⟩
            obtain ⟨sh, hsh⟩ : ∃ sh, sh = shadeF l.length H px l (bs + n) k := ⟨_, rfl⟩
            rw [← hsh] at hPX
            have HSH := Lib.hid hsh
            clear hsh
            cases htt : tAt l.length H l bs k n with
            | false =>
              rw [show thereB (l.length : Int) H l (bs + n) k = false from htt] at hPX
              have HPX := Lib.hid hPX
              have HE1 := Lib.hid (HED.out (-1) ⟨n, by omega, hall.out, fun _ => by rw [htt]; rfl, by rw [if_neg (by rw [htt]; simp)]⟩)
              clear hPX htt hall
              go_wp2_with fail
              refine (HPX.out _ (HI.out.below E.below) (HT.out.below E.below)).mono ?_
              rintro e w7 ⟨rfl, hb7⟩
              have E7 := E.keep hb7
              clear E hb7
              dsimp only
              go_wp2_with fail
              exact ⟨⟨k + 1, o ++ [-1], by go_num, by omega, by simp [hol], HE1.out, by rw [← rep_next o _ hkN]; exact E7⟩, by simp [intOf]; omega⟩
            | true =>
              rw [show thereB (l.length : Int) H l (bs + n) k = true from htt] at hPX
              have hd : dAt l.length H px l bs k n = decide (sh < 128) := by rw [dAt_shade htt HOK.out rfl, HSH.out]
              have HPX := Lib.hid hPX
              by_cases hdk : sh < 128
              · have hall' : ∀ m, m < n + 1 → tAt l.length H l bs k m = true ∧ dAt l.length H px l bs k m = true := fun m hm => by
                  rcases Nat.lt_or_eq_of_le (Nat.le_of_lt_succ hm) with g' | rfl
                  · exact hall.out m g'
                  · exact ⟨htt, by rw [hd]; simpa using hdk⟩
                have HALL := Lib.hid hall'
                have hge : decide (128 ≤ sh) = false := by simp; omega
                clear hPX htt hall hall' hd
                go_wp2_with fail
                refine (HPX.out _ (HI.out.below E.below) (HT.out.below E.below)).mono ?_
                rintro e w7 ⟨rfl, hb7⟩
                have E7 := E.keep hb7
                clear E hb7
                dsimp only
                go_wp2_with fail
                go_roundw
                case rel => exact ⟨n + 1, rfl, by omega, HALL, E7⟩
                case measure => simp [intOf]; omega
              · have hge : decide (128 ≤ sh) = true := by simp; omega
                have hdf : dAt l.length H px l bs k n = false := by rw [hd]; simpa using hdk
                by_cases hn0 : 0 < n
                · have HE1 := Lib.hid (HED.out (bs + n) ⟨n, by omega, hall.out, fun _ => by rw [hdf]; simp, by rw [if_pos ⟨hn0, by omega, htt⟩]⟩)
                  have hgt : decide (bs < bs + (n : Int)) = true := by simp; omega
                  clear hPX htt hall hd hdf
                  go_wp2_with fail
                  refine (HPX.out _ (HI.out.below E.below) (HT.out.below E.below)).mono ?_
                  rintro e w7 ⟨rfl, hb7⟩
                  have E7 := E.keep hb7
                  clear E hb7
                  have c0 := E7.out.cell (i := k) (v := .int .i64 (-1)) (by rw [rep_next o _ hkN, ← hol]; simp)
                  have c1 := E7.out.froz k
                  have c2 := E7.out.lt
                  dsimp only
                  go_wp2_with fail
                  exact ⟨⟨k + 1, o ++ [bs + n], by go_num, by omega, by simp [hol], HE1.out, by have := E7.set k (bs + n); rw [set_next hol hkN] at this; simpa using this⟩, by simp [intOf]; omega⟩
                · obtain rfl : n = 0 := by omega
                  have HE1 := Lib.hid (HED.out (-1) ⟨0, by omega, hall.out, fun _ => by rw [hdf]; simp, by rw [if_neg (by omega)]⟩)
                  have e0 : bs + ((0 : Nat) : Int) = bs := by simp
                  clear HPX
                  rw [e0] at hPX ⊢
                  have HPX := Lib.hid hPX
                  clear hPX htt hall hd hdf hd2 hadd e0
                  go_wp2_with fail
                  refine (HPX.out _ (HI.out.below E.below) (HT.out.below E.below)).mono ?_
                  rintro e w7 ⟨rfl, hb7⟩
                  have E7 := E.keep hb7
                  clear E hb7
                  dsimp only
                  go_wp2_with fail
                  exact ⟨⟨k + 1, o ++ [-1], by go_num, by omega, by simp [hol], HE1.out, by rw [← rep_next o _ hkN]; exact E7⟩, by simp [intOf]; omega⟩
          · obtain hn5 : (n : Int) = 4 * s + 1 := by omega
            have HE1 := Lib.hid (HED.out (-1) ⟨n, by omega, hall.out, fun _ => by omega, by rw [if_neg (by omega)]⟩)
            have hd2 : decide (bs + (n : Int) ≤ bs + 4 * s) = false := by simp; omega
            clear hall
            go_wp2_with fail
            exact ⟨⟨k + 1, o ++ [-1], by go_num, by omega, by simp [hol], HE1.out, by rw [← rep_next o _ hkN]; exact E⟩, by simp [intOf]; omega⟩
      · obtain rfl : k = N := by omega
        rw [Nat.sub_self, List.replicate_zero, List.append_nil] at E
        have hEA : EdgesAre l.length H px l s R o := ⟨by rw [hol]; exact HN.out.symm, f, HFT.out, fun j hj => by rw [← HBS.out]; exact hed.out j (by omega)⟩
        have hVO := hEA.ok h2 (by have := HN.out; omega)
        have HEA := Lib.hid hEA
        have hrd := lblk_reads E.out (Nat.le_trans (show o.length ≤ 1000 by omega) (by decide))
        rw [hol] at hrd
        clear hEA hed hlen
        go_wp2_with fail
        refine (fill_any _ o _ hVO hrd).mono ?_
        rintro e w7 ⟨v, rfl, hown, hb7⟩
        have E7 := E.keep hb7
        have hsz := E.out.lt
        have hgg := E.hg
        clear E hb7
        obtain ⟨r0, r1, rf, rlt⟩ := E7.res.d2
        dsimp only
        go_wp2_with fail
        refine bodyPost_ret (v := .tuple #[v, .agg #[.int .i64 0, .int .i64 0]]) (by simp [results, Tryz.results14, go_sem, r0, r1, rf, rlt]) rfl ?_
        refine ⟨o, HEA.out, v, rfl, ?_, ?_⟩
        · have h7 : World.ownsRow w7 (w.heap.size + 2) 3 1 v (fillF o).length ((fillF o).map (Value.int .i64)) := own_base hown (by omega)
          rw [fillF_len] at h7
          exact own_base (own_set (own_set h7 (by omega) _) (by omega) _) (by omega)
        · have hb := E7.below
          exact (by repeat (first | (with_reducible exact Below.refl _ _) | (with_reducible assumption) | ((with_reducible refine Below.setCell ?_ ?_ _); rotate_left; (focus (first | omega | (simp; done) | (simp; omega)))) | (with_reducible refine Below.drew ?_) | (with_reducible refine below_drewN ?_ _) | ((with_reducible refine Below.alloc ?_ ?_ _); rotate_left; (focus (first | omega | (simp; done) | (simp; omega))))))

end Go.Proofs.YtnfgedbcfclnmaaGreat
