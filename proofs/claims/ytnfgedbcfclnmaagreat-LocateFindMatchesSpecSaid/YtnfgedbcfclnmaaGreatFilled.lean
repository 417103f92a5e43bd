/- The reference's Filled. -/
import Derived.Test.YtnfgedbcfclnmaaGreatRange
set_option linter.unusedVariables false
set_option linter.unusedSimpArgs false
namespace Go.Proofs.YtnfgedbcfclnmaaGreat
open Go.RowKit

/-- A fresh list. -/
def RetInts (w : World) (l : List Int) (e : Ending) (w' : World) : Prop :=
  ∃ v, e = .returned v ∧ w'.ownsRow w.heap.size 3 1 v l.length (l.map (Value.int .i64)) ∧ Below w.heap.size w w'

/-- The blocks of Filled's second loop. -/
structure FldEnv (w : World) (vals : List Int) (bS : Nat) (pv : Value) (wx : World) : Prop where
  below : Below w.heap.size w wx
  s : Blk wx bS #[.int .i64 (bndF (ptsTo vals vals.length)).la, .int .i64 (bndF (ptsTo vals vals.length)).lb, .int .i64 (bndF (ptsTo vals vals.length)).ha, .int .i64 (bndF (ptsTo vals vals.length)).hb, .bool false] 123
  pts : PReadsLt bS wx pv (ptsTo vals vals.length)
  h1 : w.heap.size ≤ bS
theorem FldEnv.keep {w wx w1 : World} {vals : List Int} {bS : Nat} {pv : Value} (h : FldEnv w vals bS pv wx) (hb : Below wx.heap.size wx w1) : FldEnv w vals bS pv w1 :=
  ⟨binto h.below hb, h.s.keep hb h.s.lt, h.pts.keep (hb.mono (Nat.le_of_lt h.s.lt)), h.h1⟩
theorem FldEnv.grown {w wx w1 : World} {vals : List Int} {bS : Nat} {pv v : Value} (h : FldEnv w vals bS pv wx) {o : Obj} {n : Nat} {xs : List Value} (hown : wx.ownsRow (bS + 1) 3 1 v n xs) (hg : (wx.alloc o).grownBy w1 v.ownBlock) : FldEnv w vals bS pv w1 := by
  have hb : Below (bS + 1) wx w1 := ((Below.refl (bS + 1) wx).alloc h.s.lt o).grown hg (by have := h.s.lt; simp; omega) (fun j hj => (hown.lt j hj).1)
  have h1 := h.h1
  exact ⟨h.below.trans (hb.mono (by omega)), h.s.keep hb (by omega), h.pts.keep (hb.mono (by omega)), h.h1⟩

theorem own_weaken {w : World} {base base' : Nat} {e : TypeId} {size : Nat} {v : Value} {n : Nat} {xs : List Value} (h : w.ownsRow base e size v n xs) (hb : base' ≤ base) : w.ownsRow base' e size v n xs := by
  refine ⟨h.1, ?_⟩
  rcases h.2 with h2 | ⟨g, cap, cur, hv, hg, r⟩
  · exact .inl h2
  · exact .inr ⟨g, cap, cur, hv, by omega, r⟩

theorem fillV_bd {vals : List Int} (hv : ValsOk vals) {k : Nat} (hk : k < vals.length) (h0 : ¬ 0 ≤ vals.getD k 0) : fillV vals k = fillAt (ptsTo vals vals.length) k := by rw [fillV, if_neg h0]

set_option maxRecDepth 100000 in
set_option maxHeartbeats 4000000 in
theorem filled_any (vv : Value) (vals : List Int) (w : World) (hv : ValsOk vals) (hR : Reads (Value.int .i64) w vv vals) :
    Calls Tryz.prog 59 #[vv] w (RetInts w (fillF vals)) := by
  obtain ⟨a, cap, rfl, hlc, hcm, hR'⟩ := id hR
  have hlm : vals.length ≤ 9223372036854775807 := Nat.le_trans hlc hcm
  obtain ⟨v1, v2, v3⟩ := hv
  have HR := Lib.hid hR'
  clear hR' hR
  go_enter Tryz.func59, Tryz.ntmps59
  go_wp2_with fail
  go_loopw [3, 4] (fun pv i wr => ∃ k : Nat, k ≤ vals.length ∧ i = .int .i64 k ∧ Below w.heap.size w wr ∧ wr.ownsRow w.heap.size 109 2 pv (ptsTo vals k).length (ptCells (ptsTo vals k)))
    (fun _ i _ => vals.length - (intOf i).toNat)
  case atStart => exact ⟨0, Nat.zero_le _, rfl, Below.refl _ _, World.ownsRow_nil _ _ _ _⟩
  case round =>
    obtain ⟨k, hk, rfl, hB, hown⟩ := hrel
    have hlen := ptsTo_len (vals := vals) (k := k)
    by_cases hlt : k < vals.length
    · obtain ⟨q, hq⟩ : ∃ q, vals[k]? = some q := ⟨_, List.getElem?_eq_getElem hlt⟩
      have hqm := List.mem_of_getElem? hq
      have hqg : vals.getD k 0 = q := by simp [List.getD, hq]
      have hq1 := v2 q hqm
      have hq2 := v3 q hqm
      rcases HR.out with hnil | ⟨b, off, hae, hb, hc⟩
      · rw [hnil] at hlt; simp at hlt
      subst hae
      have c0' := keep hB (hc k q hq) hb
      have hsz := hB.size
      have hli : decide ((k : Int) < (vals.length : Int)) = true := by simp; omega
      by_cases h0 : 0 ≤ q
      · have hsucc : ptsTo vals (k + 1) = ptsTo vals k ++ [((k : Int), q)] := by rw [ptsTo, hqg, if_pos h0]
        have HS := Lib.hid hsucc
        clear hsucc hq hqg hc hqm
        go_wp2_with (at_builtin; refine wp_app1 _ rfl _ _ 107 rfl w.heap.size 109 (.agg #[.int .i64 0, .int .i64 0]) 2 16 Tryz.underlying107 Tryz.infoPoint rfl (by decide) (by decide) _ _ _ rfl (hown.alloc _) _ [.int .i64 k, .int .i64 q] rfl rfl (Blk.new _ _ _) (by simp [Value.oneCell']) (by omega) (by simp; omega) ?_; intro v' w1 hown1 hg1)
        go_roundw
        case rel =>
          refine ⟨k + 1, by omega, by go_num, (hB.alloc hB.size _).grown hg1 (by simp; omega) (fun j hj => (hown.lt j hj).1), ?_⟩
          rw [HS.out, ptCells_snoc, List.length_append]
          exact hown1
        case measure => simp [intOf]; omega
      · have hsucc : ptsTo vals (k + 1) = ptsTo vals k := by rw [ptsTo, hqg, if_neg h0]
        have HS := Lib.hid hsucc
        clear hsucc hq hqg hc hqm
        go_wp2_with fail
        go_roundw
        case rel => exact ⟨k + 1, by omega, by go_num, hB, by rw [HS.out]; exact hown⟩
        case measure => simp [intOf]; omega
    · obtain rfl : k = vals.length := by omega
      have hpr := own_points hown
      have hsm := ptsTo_small v2 v1 (Nat.le_refl _)
      go_wp2_with fail
      refine (bounds_any _ _ _ (fun a ha => (hsm a ha).ok) (ptsTo_incr _) hpr).mono ?_
      rintro e w1 ⟨rfl, hb1⟩
      have hB1 := hB.trans (hb1.mono hB.size)
      have hpr1 := hpr.below hb1
      clear hb1 hown hpr hB
      have hs1 := hB1.size
      go_wp2_with fail
      generalize hW2 : World.alloc w1 _ = W2
      have E0 : FldEnv w vals w1.heap.size u3 W2 := by
        rw [← hW2]
        exact ⟨hB1.alloc hB1.size _, Blk.new _ _ _, (PReadsLt.of hpr1).keep (below_alloc _ _), hs1⟩
      clear hW2
      go_loopw [6, 7] (fun ov i wr => ∃ k : Nat, k ≤ vals.length ∧ i = .int .i64 k ∧ FldEnv w vals w1.heap.size u3 wr ∧ wr.ownsRow (w1.heap.size + 1) 3 1 ov (fillTo vals k).length ((fillTo vals k).map (Value.int .i64))) (fun _ i _ => vals.length - (intOf i).toNat)
      case atStart => exact ⟨0, Nat.zero_le _, rfl, E0, World.ownsRow_nil _ _ _ _⟩
      case round =>
        obtain ⟨k, hk, rfl, E, hown⟩ := hrel
        obtain ⟨wa, rfl⟩ : ∃ wo : World, wo = wr := ⟨_, rfl⟩
        have hh1 := E.h1
        have hlt0 := E.s.lt
        have hfl : (fillTo vals k).length ≤ 700 := by simp [fillTo]; omega
        have hfin : ∀ (y : Int) (v' : Value) (w2 : World), fillV vals k = y → w2.ownsRow (w1.heap.size + 1) 3 1 v' ((fillTo vals k).length + 1) ((fillTo vals k).map (Value.int .i64) ++ [.int .i64 y]) → w2.ownsRow (w1.heap.size + 1) 3 1 v' (fillTo vals (k + 1)).length ((fillTo vals (k + 1)).map (Value.int .i64)) := fun y v' w2 hy h => by
          rw [fillTo_succ, hy]; simpa using h
        have HFI := Lib.hid hfin
        clear hfin
        by_cases hlt : k < vals.length
        · obtain ⟨q, hq⟩ : ∃ q, vals[k]? = some q := ⟨_, List.getElem?_eq_getElem hlt⟩
          have hqm := List.mem_of_getElem? hq
          have hqg : vals.getD k 0 = q := by simp [List.getD, hq]
          have hq1 := v2 q hqm
          have hq2 := v3 q hqm
          rcases HR.out with hnil | ⟨b, off, hae, hb, hc⟩
          · rw [hnil] at hlt; simp at hlt
          subst hae
          have c0' := keep E.below (hc k q hq) hb
          have hli : decide ((k : Int) < (vals.length : Int)) = true := by simp; omega
          by_cases h0 : 0 ≤ q
          · have hfv : fillV vals k = q := by rw [fillV, hqg, if_pos h0]
            have HV := Lib.hid hfv
            clear hfv hq hqg hc
            go_wp2_with (at_builtin; refine wp_app1 _ rfl _ _ 25 rfl (w1.heap.size + 1) 3 (.int .i64 0) 1 8 Tryz.underlying25 Tryz.infoInt rfl (by decide) (by decide) _ _ _ rfl (hown.alloc _) _ [.int .i64 q] rfl rfl (Blk.new _ _ _) (by simp [Value.oneCell']) (by omega) (by simp; omega) ?_; intro v' w2 hown2 hg2)
            go_roundw
            case rel => exact ⟨k + 1, by omega, by go_num, E.grown hown hg2, HFI.out q _ _ HV.out hown2⟩
            case measure => simp [intOf]; omega
          · have hqn : vals.getD k 0 < 0 := by omega
            have hfv : fillV vals k = fillAt (ptsTo vals vals.length) k := by rw [fillV, if_neg (by omega)]
            have HFV := Lib.hid hfv
            have HQN := Lib.hid hqn
            obtain ⟨k0, k1, k2, k3, k4, kf, klt⟩ := E.s.d5
            clear hqn hq hqg hfv hc
            go_wp2_with fail
            refine (rangeOf_any u3 (ptsTo vals vals.length) k _ hsm (ptsTo_incr _) ⟨by omega, by omega⟩ (ptsTo_ne HQN.out) (E.pts.get (Nat.le_of_lt E.s.lt))).mono ?_
            rintro e w3 ⟨⟨lo, hi, ok⟩, hsp, rfl, hb3⟩
            have E2 := E.keep hb3
            have hown2 := own_keep hown hb3
            have hlt2 := E2.s.lt
            obtain ⟨f1, f2⟩ := fillAt_span hsp
            have HF1 := Lib.hid f1
            have HF2 := Lib.hid f2
            clear k0 k1 k2 k3 k4 kf klt c0' f1 f2 hsp hb3 E hown
            by_cases hgood : ok = true ∧ lo = hi ∧ 0 ≤ lo
            · obtain ⟨rfl, rfl, hl0⟩ := hgood
              have hval : fillV vals k = lo := by rw [HFV.out]; exact HF1.out ⟨rfl, rfl, hl0⟩
              have HVAL := Lib.hid hval
              clear hval
              go_wp2_with (at_builtin; refine wp_app1 _ rfl _ _ 25 rfl (w1.heap.size + 1) 3 (.int .i64 0) 1 8 Tryz.underlying25 Tryz.infoInt rfl (by decide) (by decide) _ _ _ rfl (hown2.alloc _) _ [.int .i64 lo] rfl rfl (Blk.new _ _ _) (by simp [Value.oneCell']) (by omega) (by simp; omega) ?_; intro v' w4 hown4 hg4)
              go_roundw
              case rel => exact ⟨k + 1, by omega, by go_num, E2.grown hown2 hg4, HFI.out lo _ _ HVAL.out hown4⟩
              case measure => simp [intOf]; omega
            · have hval : fillV vals k = -1 := by rw [HFV.out]; exact HF2.out hgood
              have HVAL := Lib.hid hval
              clear hval
              cases ok with
              | false =>
                clear hgood
                go_wp2_with (at_builtin; refine wp_app1 _ rfl _ _ 25 rfl (w1.heap.size + 1) 3 (.int .i64 0) 1 8 Tryz.underlying25 Tryz.infoInt rfl (by decide) (by decide) _ _ _ rfl (hown2.alloc _) _ [.int .i64 (-1)] rfl rfl (Blk.new _ _ _) (by simp [Value.oneCell']) (by omega) (by simp; omega) ?_; intro v' w4 hown4 hg4)
                go_roundw
                case rel => exact ⟨k + 1, by omega, by go_num, E2.grown hown2 hg4, HFI.out (-1) _ _ HVAL.out hown4⟩
                case measure => simp [intOf]; omega
              | true =>
                by_cases hlh : lo = hi
                · subst hlh
                  have hl0 : lo < 0 := by
                    rcases Int.lt_or_le lo 0 with g | g
                    · exact g
                    · exact absurd ⟨rfl, rfl, g⟩ hgood
                  clear hgood
                  go_wp2_with (at_builtin; refine wp_app1 _ rfl _ _ 25 rfl (w1.heap.size + 1) 3 (.int .i64 0) 1 8 Tryz.underlying25 Tryz.infoInt rfl (by decide) (by decide) _ _ _ rfl (hown2.alloc _) _ [.int .i64 (-1)] rfl rfl (Blk.new _ _ _) (by simp [Value.oneCell']) (by omega) (by simp; omega) ?_; intro v' w4 hown4 hg4)
                  go_roundw
                  case rel => exact ⟨k + 1, by omega, by go_num, E2.grown hown2 hg4, HFI.out (-1) _ _ HVAL.out hown4⟩
                  case measure => simp [intOf]; omega
                · have hb' : (lo == hi) = false := by rw [beq_eq_false_iff_ne]; exact hlh
                  clear hgood hlh
                  go_wp2_with (at_builtin; refine wp_app1 _ rfl _ _ 25 rfl (w1.heap.size + 1) 3 (.int .i64 0) 1 8 Tryz.underlying25 Tryz.infoInt rfl (by decide) (by decide) _ _ _ rfl (hown2.alloc _) _ [.int .i64 (-1)] rfl rfl (Blk.new _ _ _) (by simp [Value.oneCell']) (by omega) (by simp; omega) ?_; intro v' w4 hown4 hg4)
                  go_roundw
                  case rel => exact ⟨k + 1, by omega, by go_num, E2.grown hown2 hg4, HFI.out (-1) _ _ HVAL.out hown4⟩
                  case measure => simp [intOf]; omega
        · obtain rfl : k = vals.length := by omega
          have hBE := E.below
          go_wp2_with fail
          go_ret
          exact ⟨_, rfl, own_weaken hown (by omega), hBE⟩

end Go.Proofs.YtnfgedbcfclnmaaGreat
