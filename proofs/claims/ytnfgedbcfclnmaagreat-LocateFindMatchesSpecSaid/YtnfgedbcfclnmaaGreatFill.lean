/- The program's Fill. -/
import Derived.Test.YtnfgedbcfclnmaaGreatFillF
import Derived.Test.YtnfgedbcfclnmaaGreatKit4
set_option linter.unusedVariables false
set_option linter.unusedSimpArgs false
namespace Go.Proofs.YtnfgedbcfclnmaaGreat
open Go.RowKit

/-- A fresh list and no fault. -/
def FillRet (w : World) (l : List Int) (e : Ending) (w' : World) : Prop :=
  ∃ v, e = .returned (.tuple #[v, .agg #[.int .i64 0, .int .i64 0]]) ∧ w'.ownsRow w.heap.size 3 1 v l.length (l.map (Value.int .i64)) ∧ Below w.heap.size w w'

/-- The blocks of Fill's second loop. -/
structure FillEnv (w : World) (vals : List Int) (bS bO : Nat) (pv : Value) (cur : List Int) (wx : World) : Prop where
  below : Below w.heap.size w wx
  r : Blk wx w.heap.size #[.int .i64 0, .int .i64 0] 29
  s : Blk wx bS #[.int .i64 (allF (ptsTo vals vals.length)).la, .int .i64 (allF (ptsTo vals vals.length)).lb, .int .i64 (allF (ptsTo vals vals.length)).ha, .int .i64 (allF (ptsTo vals vals.length)).hb, .bool (allF (ptsTo vals vals.length)).bd, .bool false] 113
  out : LBlk wx bO (cur.map (Value.int .i64)) 3
  pts : PReadsLt bS wx pv (ptsTo vals vals.length)
  h1 : w.heap.size < bS
  h2 : bS < bO
theorem FillEnv.keep {w wx w1 : World} {vals : List Int} {bS bO : Nat} {pv : Value} {cur : List Int} (h : FillEnv w vals bS bO pv cur wx) (hb : Below wx.heap.size wx w1) : FillEnv w vals bS bO pv cur w1 :=
  ⟨binto h.below hb, h.r.keep hb h.r.lt, h.s.keep hb h.s.lt, h.out.keep hb h.out.lt, h.pts.keep (hb.mono (Nat.le_of_lt h.s.lt)), h.h1, h.h2⟩
theorem FillEnv.set {w wx : World} {vals : List Int} {bS bO : Nat} {pv : Value} {cur : List Int} (h : FillEnv w vals bS bO pv cur wx) (i : Nat) (v : Int) : FillEnv w vals bS bO pv (cur.set i v) (wx.setCell ⟨bO, i, none⟩ (.int .i64 v)) := by
  have h1 := h.h1
  have h2 := h.h2
  refine ⟨h.below.setCell (by simp; omega) _, h.r.set_other (by simp; omega) _, h.s.set_other (by simp; omega) _, ?_, h.pts.keep ((Below.refl _ _).setCell (by simp; omega) _), h1, h2⟩
  have := h.out.set (i := i) (.int .i64 v)
  rw [List.map_set]; exact this

set_option maxRecDepth 100000 in
set_option maxHeartbeats 4000000 in
theorem fill_any (vv : Value) (vals : List Int) (w : World) (hv : ValsOk vals) (hR : Reads (Value.int .i64) w vv vals) :
    Calls Tryz.prog 41 #[vv] w (FillRet w (fillF vals)) := by
  obtain ⟨a, cap, rfl, hlc, hcm, hR'⟩ := id hR
  have hlm : vals.length ≤ 9223372036854775807 := Nat.le_trans hlc hcm
  obtain ⟨v1, v2, v3⟩ := hv
  have HR := Lib.hid hR'
  have HR0 := Lib.hid hR
  clear hR' hR
  go_enter Tryz.func41, Tryz.ntmps41
  go_wp2_with fail
  generalize hW0 : World.alloc w _ = W0
  have R0 : Blk W0 w.heap.size #[.int .i64 0, .int .i64 0] 29 := by rw [← hW0]; exact Blk.new _ _ _
  have hB0 : Below w.heap.size w W0 := by rw [← hW0]; exact (by repeat (first | (with_reducible exact Below.refl _ _) | (with_reducible assumption) | ((with_reducible refine Below.setCell ?_ ?_ _); rotate_left; (focus (first | omega | (simp; done) | (simp; omega)))) | (with_reducible refine Below.drew ?_) | (with_reducible refine below_drewN ?_ _) | ((with_reducible refine Below.alloc ?_ ?_ _); rotate_left; (focus (first | omega | (simp; done) | (simp; omega))))))
  have hs0 : W0.heap.size = w.heap.size + 1 := by rw [← hW0]; simp
  clear hW0
  go_loopw [4, 20] (fun pv i wr => ∃ k : Nat, k ≤ vals.length ∧ i = .int .i64 k ∧ Below w.heap.size w wr ∧ Blk wr w.heap.size #[.int .i64 0, .int .i64 0] 29 ∧ wr.ownsRow (w.heap.size + 1) 109 2 pv (ptsTo vals k).length (ptCells (ptsTo vals k)))
    (fun _ i _ => vals.length - (intOf i).toNat)
  case atStart => exact ⟨0, Nat.zero_le _, rfl, hB0, R0, World.ownsRow_nil _ _ _ _⟩
  case round =>
    obtain ⟨k, hk, rfl, hB, R, hown⟩ := hrel
    have hlen := ptsTo_len (vals := vals) (k := k)
    by_cases hlt : k < vals.length
    · obtain ⟨q, hq⟩ : ∃ q, vals[k]? = some q := ⟨_, List.getElem?_eq_getElem hlt⟩
      have hqm := List.mem_of_getElem? hq
      have hqg : vals.getD k 0 = q := by simp [List.getD, hq]
      have hq1 := v2 q hqm
      have hq2 := v3 q hqm
      rcases HR.out with hnil | ⟨b, off, hae, hb, hc⟩
      · rw [hnil] at hlt; simp at hlt
      subst hae
      have c0' := keep hB (hc k q hq) hb
      have hsz := hB.size
      have hsz1 := R.lt
      by_cases h0 : 0 ≤ q
      · have hsucc : ptsTo vals (k + 1) = ptsTo vals k ++ [((k : Int), q)] := by rw [ptsTo, hqg, if_pos h0]
        have HS := Lib.hid hsucc
        clear hsucc hq hqg hc hqm
        go_wp2_with (at_builtin; refine wp_app1 _ rfl _ _ 107 rfl (w.heap.size + 1) 109 (.agg #[.int .i64 0, .int .i64 0]) 2 16 Tryz.underlying107 Tryz.infoPoint rfl (by decide) (by decide) _ _ _ rfl (hown.alloc _) _ [.int .i64 k, .int .i64 q] rfl rfl (Blk.new _ _ _) (by simp [Value.oneCell']) (by omega) (by simp; omega) ?_; intro v' w1 hown1 hg1)
        go_roundw
        case rel =>
          refine ⟨k + 1, by omega, by go_num, (hB.alloc hB.size _).grown hg1 (by simp; omega) (fun j hj => by have := (hown.lt j hj).1; omega), (R.alloc _).grown hg1 (own_ne hown (by omega)), ?_⟩
          rw [HS.out, ptCells_snoc, List.length_append]
          exact hown1
        case measure => simp [intOf]; omega
      · have hsucc : ptsTo vals (k + 1) = ptsTo vals k := by rw [ptsTo, hqg, if_neg h0]
        have HS := Lib.hid hsucc
        clear hsucc hq hqg hc hqm
        go_wp2_with fail
        go_roundw
        case rel => exact ⟨k + 1, by omega, by go_num, hB, R, by rw [HS.out]; exact hown⟩
        case measure => simp [intOf]; omega
    · obtain rfl : k = vals.length := by omega
      have hpr := own_points hown
      have hsm := ptsTo_small v2 v1 (Nat.le_refl _)
      go_wp2_with fail
      refine (all_any _ _ _ (fun a ha => (hsm a ha).ok) (ptsTo_incr _) hpr).mono ?_
      rintro e w1 ⟨rfl, hb1⟩
      have hB1 := hB.trans (hb1.mono hB.size)
      have R1 := R.keep hb1 R.lt
      have hpr1 := hpr.below hb1
      clear hb1 hown hpr R hB
      go_wp2_with (at_make; refine wp_make1 _ rfl _ _ 25 rfl 3 (.int .i64 0) 8 Tryz.underlying25 Tryz.infoInt rfl (by decide) _ vals.length rfl rfl rfl (by omega) ?_)
      generalize hW2 : World.alloc (World.alloc w1 _) _ = W2
      have hs1 := hB1.size
      have hr1 := R1.lt
      have E0 : FillEnv w vals w1.heap.size (w1.heap.size + 1) u4 (List.replicate (vals.length - 0) 0) W2 := by
        rw [← hW2]
        refine ⟨(hB1.alloc hB1.size _).alloc (by simp; omega) _, (R1.alloc _).alloc _, (Blk.new _ _ _).alloc _, ?_, ((PReadsLt.of hpr1).keep (below_alloc _ _)).keep ((Below.refl _ _).alloc (by simp) _), hr1, by omega⟩
        have := Blk.newAt (w := w1.alloc (.cells #[.int .i64 (allF (ptsTo vals vals.length)).la, .int .i64 (allF (ptsTo vals vals.length)).lb, .int .i64 (allF (ptsTo vals vals.length)).ha, .int .i64 (allF (ptsTo vals vals.length)).hb, .bool (allF (ptsTo vals vals.length)).bd, .bool false] 113)) (n := w1.heap.size + 1) (List.replicate vals.length (Value.int .i64 0)).toArray 3 (by simp)
        simpa [LBlk] using this
      clear hW2
      go_loopw [45] (fun i wr => ∃ k : Nat, k ≤ vals.length ∧ i = .int .i64 k ∧ FillEnv w vals w1.heap.size (w1.heap.size + 1) u4 (fillTo vals k ++ List.replicate (vals.length - k) 0) wr) (fun i _ => vals.length - (intOf i).toNat)
      case atStart => exact ⟨0, Nat.zero_le _, rfl, by simpa [fillTo] using E0⟩
      case round =>
        obtain ⟨k, hk, rfl, E⟩ := hrel
        obtain ⟨wa, rfl⟩ : ∃ wo : World, wo = wr := ⟨_, rfl⟩
        have hh1 := E.h1
        have hh2 := E.h2
        have hlt0 := E.out.lt
        have hfl : (fillTo vals k).length = k := by simp [fillTo]
        by_cases hlt : k < vals.length
        · obtain ⟨q, hq⟩ : ∃ q, vals[k]? = some q := ⟨_, List.getElem?_eq_getElem hlt⟩
          have hqm := List.mem_of_getElem? hq
          have hqg : vals.getD k 0 = q := by simp [List.getD, hq]
          have hq1 := v2 q hqm
          have hq2 := v3 q hqm
          rcases HR.out with hnil | ⟨b, off, hae, hb, hc⟩
          · rw [hnil] at hlt; simp at hlt
          subst hae
          have c0' := keep E.below (hc k q hq) hb
          have hnx : ∀ y : Int, (fillTo vals k ++ List.replicate (vals.length - k) 0).set k y = fillTo vals k ++ y :: List.replicate (vals.length - (k + 1)) 0 := fun y => set_next hfl hlt
          have hcur : ((fillTo vals k ++ List.replicate (vals.length - k) 0).map (Value.int .i64))[k]? = some (.int .i64 0) := by
            rw [List.getElem?_map, List.getElem?_append_right (by omega), hfl, Nat.sub_self, List.getElem?_replicate, if_pos (by omega)]; rfl
          have o0 := E.out.cell hcur
          have of := E.out.froz
          have hsucc : ∀ y, fillV vals k = y → fillTo vals k ++ y :: List.replicate (vals.length - (k + 1)) 0 = fillTo vals (k + 1) ++ List.replicate (vals.length - (k + 1)) 0 := fun y hy => by rw [fillTo_succ, hy]; simp
          have HNX := Lib.hid hnx
          have HSU := Lib.hid hsucc
          have HFL := Lib.hid hfl
          have HCUR := Lib.hid hcur
          have hli : decide ((k : Int) < (vals.length : Int)) = true := by simp; omega
          clear hnx hcur hc hsucc hfl
          by_cases h0 : 0 ≤ q
          · have hfv : fillV vals k = q := by rw [fillV, hqg, if_pos h0]
            have HV := Lib.hid hfv
            have HQ := Lib.hid hq
            have HQG := Lib.hid hqg
            clear hfv hq hqg
            go_wp2_with fail
            go_roundw
            case rel =>
              refine ⟨k + 1, by omega, by go_num, ?_⟩
              have := E.set k q
              rw [HNX.out, HSU.out q HV.out] at this
              exact this
            case measure => simp [intOf]; omega
          · have hqn : vals.getD k 0 < 0 := by omega
            have HQN := Lib.hid hqn
            have HQ := Lib.hid hq
            have HQG := Lib.hid hqg
            have E1 := E.set k q
            obtain ⟨k0, k1, k2, k3, k4, k5, kf, klt⟩ := E.s.d6
            clear hqn hq hqg
            go_wp2_with fail
            refine (span_any u4 (ptsTo vals vals.length) k _ hsm (ptsTo_incr _) ⟨by omega, by omega⟩ (ptsTo_ne HQN.out) (E1.pts.get (Nat.le_of_lt E1.s.lt))).mono ?_
            rintro e w3 ⟨⟨lo, hi, ok⟩, hsp, rfl, hb3⟩
            have E2 := E1.keep hb3
            clear k0 k1 k2 k3 k4 k5 kf klt o0 of c0'
            obtain ⟨f1, f2⟩ := fillAt_span hsp
            have HF1 := Lib.hid f1
            have HF2 := Lib.hid f2
            clear f1 f2 hsp hb3
            have hc2 : ((((fillTo vals k ++ List.replicate (vals.length - k) 0)).set k q).map (Value.int .i64))[k]? = some (.int .i64 q) := by
              rw [HNX.out, List.getElem?_map, List.getElem?_append_right (by have := HFL.out; omega), HFL.out, Nat.sub_self]; rfl
            have o0 := E2.out.cell hc2
            have of := E2.out.froz
            have hlt2 := E2.out.lt
            have E3 := E2.set k (-1)
            rw [List.set_set, HNX.out] at E3
            have hs4 : ∀ y : Int, (fillTo vals k ++ -1 :: List.replicate (vals.length - (k + 1)) 0).set k y = fillTo vals k ++ y :: List.replicate (vals.length - (k + 1)) 0 := fun y => by
              have := set_mid (fillTo vals k) (List.replicate (vals.length - (k + 1)) 0) (-1) y
              rwa [HFL.out] at this
            have HS4 := Lib.hid hs4
            have hfv : fillV vals k = fillAt (ptsTo vals vals.length) k := by rw [fillV, if_neg (by have := HQN.out; omega)]
            have HFV := Lib.hid hfv
            clear hs4 hfv hc2 E2 E1
            by_cases hgood : ok = true ∧ lo = hi ∧ 0 ≤ lo
            · obtain ⟨rfl, rfl, hl0⟩ := hgood
              have hval : fillV vals k = lo := by rw [HFV.out]; exact HF1.out ⟨rfl, rfl, hl0⟩
              have HVAL := Lib.hid hval
              clear hval
              go_wp2_with fail
              go_roundw
              case rel =>
                refine ⟨k + 1, by omega, by go_num, ?_⟩
                have := E3.set k lo
                rw [HS4.out, HSU.out lo HVAL.out] at this
                exact this
              case measure => simp [intOf]; omega
            · have hval : fillV vals k = -1 := by rw [HFV.out]; exact HF2.out hgood
              have HVAL := Lib.hid hval
              have hrel : ∃ m : Nat, m ≤ vals.length ∧ Value.int .i64 ((k : Int) + 1) = .int .i64 m ∧ FillEnv w vals w1.heap.size (w1.heap.size + 1) u4 (fillTo vals m ++ List.replicate (vals.length - m) 0) (w3.setCell ⟨w1.heap.size + 1, k, none⟩ (.int .i64 (-1))) := by
                refine ⟨k + 1, by omega, by go_num, ?_⟩
                rw [HSU.out _ HVAL.out] at E3
                exact E3
              have HREL := Lib.hid hrel
              clear hval hrel E3
              cases ok with
              | false =>
                clear hgood
                go_wp2_with fail
                go_roundw
                case rel => exact HREL.out
                case measure => simp [intOf]; omega
              | true =>
                by_cases hlh : lo = hi
                · subst hlh
                  have hl0 : lo < 0 := by
                    rcases Int.lt_or_le lo 0 with g | g
                    · exact g
                    · exact absurd ⟨rfl, rfl, g⟩ hgood
                  clear hgood
                  go_wp2_with fail
                  go_roundw
                  case rel => exact HREL.out
                  case measure => simp [intOf]; omega
                · have hb' : (lo == hi) = false := by rw [beq_eq_false_iff_ne]; exact hlh
                  clear hgood hlh
                  go_wp2_with fail
                  go_roundw
                  case rel => exact HREL.out
                  case measure => simp [intOf]; omega
        · obtain rfl : k = vals.length := by omega
          obtain ⟨r0, r1, rf, rlt⟩ := E.r.d2
          have hBE := E.below
          have hout := E.out
          rw [Nat.sub_self, List.replicate_zero, List.append_nil] at hout
          have HO := Lib.hid hout
          clear hout
          go_wp2_with fail
          refine bodyPost_ret (v := .tuple #[.slice (some ⟨w1.heap.size + 1, 0, none⟩) vals.length vals.length, .agg #[.int .i64 0, .int .i64 0]]) (by simp [results, Tryz.results41, go_sem, r0, r1, rf, rlt]) rfl ⟨_, rfl, ?_, (by repeat (first | (with_reducible exact Below.refl _ _) | (with_reducible assumption) | ((with_reducible refine Below.setCell ?_ ?_ _); rotate_left; (focus (first | omega | (simp; done) | (simp; omega)))) | (with_reducible refine Below.drew ?_) | (with_reducible refine below_drewN ?_ _) | ((with_reducible refine Below.alloc ?_ ?_ _); rotate_left; (focus (first | omega | (simp; done) | (simp; omega))))))⟩
          have hof := ((HO.out.set_other (a := ⟨w.heap.size, 0, none⟩) (by simp; omega) (.int .i64 0)).set_other (a := ⟨w.heap.size, 1, none⟩) (by simp; omega) (.int .i64 0)).own (base := w.heap.size) (n := vals.length) (by simp [fillTo]) (by omega) (by simp only [maxLen]; omega)
          rw [fillF_len]
          exact hof

end Go.Proofs.YtnfgedbcfclnmaaGreat
