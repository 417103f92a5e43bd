/- The reference's RangeOf. -/
import Derived.Test.YtnfgedbcfclnmaaGreatFill
import Derived.Deep.CutBlock
set_option linter.unusedVariables false
set_option linter.unusedSimpArgs false
namespace Go.Proofs.YtnfgedbcfclnmaaGreat
open Go.RowKit

/-- Is v possible, as the reference asks? -/
def posR (l : List (Int × Int)) (x v : Int) : Bool := possF (withF (bndF l) l (x, v))

theorem bnd_poss {l : List (Int × Int)} (hi : Incr l) : possF (bndF l) = true ↔ Cons (listC l) := (rep_bnd hi).poss

/-- Facts on v that RangeOf rests on. -/
structure RngPre (l : List (Int × Int)) (x v0 : Int) : Prop where
  bd : ∀ v, posR l x v = true → -110000000 ≤ v ∧ v ≤ 110000000
  near : ∃ d : Nat, d ≤ 3 ∧ (posR l x (v0 + d) = true ∨ posR l x (v0 - d) = true)
  v0 : -110000010 ≤ v0 ∧ v0 ≤ 110000010

theorem rng_pre {l : List (Int × Int)} (hl : ∀ a ∈ l, PtS a) (hi : Incr l) {x : Int} (hx : 0 ≤ x ∧ x ≤ 10000) (hxl : ∀ a ∈ l, a.1 ≠ x) (hbd : (bndF l).bd = true) (hp : possF (bndF l) = true) {a : Int × Int} (ha : a ∈ l) :
    RngPre l x (a.2 + (bndF l).la * (x - a.1) / (bndF l).lb) := by
  obtain ⟨hs, c, hc⟩ := rep_small hl (rep_bnd hi) hbd hp
  have hb : ∀ v, posR l x v = true → -110000000 ≤ v ∧ v ≤ 110000000 := fun v hv => PossV.bound hl hx hxl hc ((poss_bnd hi hxl).1 hv)
  obtain ⟨v, hv, h1, h2⟩ := near_low hl hi (rep_bnd hi) hbd hp ha hx
  have hv' : posR l x v = true := (poss_bnd hi hxl).2 hv
  have hvb := hb v hv'
  refine ⟨hb, ?_, by omega, by omega⟩
  generalize a.2 + (bndF l).la * (x - a.1) / (bndF l).lb = v0 at *
  rcases Int.le_total v0 v with g | g
  · refine ⟨(v - v0).toNat, by omega, .inl ?_⟩
    have e : v0 + ((v - v0).toNat : Int) = v := by omega
    rw [e]; exact hv'
  · refine ⟨(v0 - v).toNat, by omega, .inr ?_⟩
    have e : v0 - ((v0 - v).toNat : Int) = v := by omega
    rw [e]; exact hv'

/-- The block of RangeOf. -/
structure RngEnv (w : World) (l : List (Int × Int)) (pv : Value) (wx : World) : Prop where
  below : Below w.heap.size w wx
  s : Blk wx w.heap.size #[.int .i64 (bndF l).la, .int .i64 (bndF l).lb, .int .i64 (bndF l).ha, .int .i64 (bndF l).hb, .bool false] 123
  pts : PReads wx pv l
theorem RngEnv.keep {w wx w1 : World} {l : List (Int × Int)} {pv : Value} (h : RngEnv w l pv wx) (hb : Below wx.heap.size wx w1) : RngEnv w l pv w1 :=
  ⟨binto h.below hb, h.s.keep hb h.s.lt, h.pts.below hb⟩

set_option maxRecDepth 100000 in
set_option maxHeartbeats 4000000 in
theorem rangeOf_any (pv : Value) (l : List (Int × Int)) (x : Int) (w : World) (hl : ∀ a ∈ l, PtS a) (hi : Incr l) (hx : 0 ≤ x ∧ x ≤ 10000) (hxl : ∀ a ∈ l, a.1 ≠ x) (hR : PReads w pv l) :
    Calls Tryz.prog 83 #[pv, .agg #[.int .i64 (bndF l).la, .int .i64 (bndF l).lb, .int .i64 (bndF l).ha, .int .i64 (bndF l).hb, .bool false], .int .i64 x] w
      (RetEx (SpanP l x) (fun r => .tuple #[.int .i64 r.1, .int .i64 r.2.1, .bool r.2.2]) w) := by
  have hR0 := hR
  obtain ⟨a, cap, rfl, hlc, hcm, hR'⟩ := hR
  have hlm : l.length ≤ 9223372036854775807 := Nat.le_trans hlc hcm
  have HR := Lib.hid hR'
  clear hR'
  have hrep := rep_bnd hi
  have hok : (bndF l).Ok := bndTo_ok (fun a ha => (hl a ha).ok) _ (Nat.le_refl _)
  have hnz : (bndF l).Nz := bndTo_nz hi _ (Nat.le_refl _)
  have HI := Lib.hid hi
  have HXL := Lib.hid hxl
  have HREP := Lib.hid hrep
  have HNZ := Lib.hid hnz
  clear hi hxl hrep hnz
  go_enter Tryz.func83, Tryz.ntmps83
  go_wp2_with fail
  generalize hW0 : World.alloc w _ = W0
  have hB0 : Below w.heap.size w W0 := by rw [← hW0]; exact (by repeat (first | (with_reducible exact Below.refl _ _) | (with_reducible assumption) | ((with_reducible refine Below.setCell ?_ ?_ _); rotate_left; (focus (first | omega | (simp; done) | (simp; omega)))) | (with_reducible refine Below.drew ?_) | (with_reducible refine below_drewN ?_ _) | ((with_reducible refine Below.alloc ?_ ?_ _); rotate_left; (focus (first | omega | (simp; done) | (simp; omega))))))
  have E0 : RngEnv w l (.slice a l.length cap) W0 := by
    refine ⟨hB0, ?_, hR0.below hB0⟩
    rw [← hW0]; exact Blk.new _ _ _
  clear hW0 hB0 hR0
  refine (some_any (bndF l) _ hok HNZ.out).mono ?_
  rintro e w1 ⟨rfl, hb1⟩
  have E1 := E0.keep hb1
  clear E0 hb1
  cases hp : possF (bndF l)
  · have hfin : SpanP l x (0, 0, false) := .inl ⟨rfl, .inl (fun hc => by rw [(bnd_poss HI.out).2 hc] at hp; cases hp)⟩
    have HFIN := Lib.hid hfin
    have hBE := E1.below
    clear hfin hp
    go_wp2_with fail
    go_ret3
    exact ⟨_, HFIN.out, rfl, hBE⟩
  · have HP := Lib.hid hp
    clear hp
    go_wp2_with fail
    have hBE := E1.below
    go_loopw [9] (fun i wr => ∃ k : Nat, k ≤ l.length ∧ i = .int .i64 k ∧ RngEnv w l (.slice a l.length cap) wr) (fun i _ => l.length - (intOf i).toNat)
    case atStart => exact ⟨0, Nat.zero_le _, rfl, E1⟩
    case round =>
      obtain ⟨k, hk, rfl, E⟩ := hrel
      by_cases hlt : k < l.length
      · obtain ⟨q, hq⟩ : ∃ q, l[k]? = some q := ⟨_, List.getElem?_eq_getElem hlt⟩
        have hqm := List.mem_of_getElem? hq
        have hqx := HXL.out q hqm
        have hqb : (q.1 == x) = false := by rw [beq_eq_false_iff_ne]; exact hqx
        rcases HR.out with hnil | ⟨b, off, hae, hb, hc⟩
        · rw [hnil] at hlt; simp at hlt
        subst hae
        obtain ⟨c0, c1⟩ := hc k q hq
        have c0' := keep E.below c0 hb
        have c1' := keep E.below c1 hb
        have hli : decide ((k : Int) < (l.length : Int)) = true := by simp; omega
        have HQ := Lib.hid hq
        clear c0 c1 hc hq hqx
        go_wp2_with fail
        go_roundw
        case rel => exact ⟨k + 1, by omega, by go_num, E⟩
        case measure => simp [intOf]; omega
      · obtain rfl : k = l.length := by omega
        obtain ⟨k0, k1, k2, k3, k4, kf, klt⟩ := E.s.d5
        rcases HNZ.out with ⟨n1, n2, n3⟩ | ⟨n1, n2, n3⟩
        · have hz1 : ((bndF l).lb == 0) = false := by rw [beq_eq_false_iff_ne]; omega
          obtain ⟨hsm, c, hc⟩ := rep_small hl HREP.out n1 HP.out
          have hpos : 0 < l.length := by
            obtain ⟨i, j, p, q, h1, -⟩ := hc
            have := (List.getElem?_eq_some_iff.1 h1).1; omega
          obtain ⟨p, hp0⟩ : ∃ p, l[0]? = some p := ⟨_, List.getElem?_eq_getElem hpos⟩
          have hpm := List.mem_of_getElem? hp0
          rcases HR.out with hnil | ⟨b, off, hae, hb, hcc⟩
          · rw [hnil] at hpos; simp at hpos
          subst hae
          obtain ⟨c0, c1⟩ := hcc 0 p hp0
          have c0' := keep E.below c0 hb
          have c1' := keep E.below c1 hb
          simp only [Nat.zero_mul, Nat.add_zero] at c0' c1'
          obtain ⟨hpre1, hpre2, hpre3⟩ := rng_pre hl HI.out hx HXL.out n1 HP.out hpm
          obtain ⟨p1, p2, p3, p4⟩ := hl p hpm
          have hli0 : decide ((0 : Int) < (l.length : Int)) = true := by simp; omega
          have s0 := hsm.a0
          have s1 := hsm.a1
          have s2 := hsm.b0
          have s3 := hsm.b1
          have hxp : IntKind.i64.wrap (x - p.1) = x - p.1 := IntWalk.i64_in _ (by omega)
          have hprod : -100010000 ≤ (bndF l).la * (x - p.1) ∧ (bndF l).la * (x - p.1) ≤ 100010000 := by
            have h3 := mul_bd (A := 10001) (B := 10000) (show -10001 ≤ (bndF l).la ∧ (bndF l).la ≤ 10001 from ⟨s0, s1⟩) (show 0 ≤ (if p.1 ≤ x then x - p.1 else p.1 - x) ∧ (if p.1 ≤ x then x - p.1 else p.1 - x) ≤ 10000 by split <;> omega) (by omega)
            by_cases hle : p.1 ≤ x
            · rw [if_pos hle] at h3; omega
            · rw [if_neg hle] at h3
              have : (bndF l).la * (x - p.1) = -((bndF l).la * (p.1 - x)) := by grind
              omega
          obtain ⟨pr1, pr2⟩ := hprod
          have hmw : IntKind.i64.wrap ((bndF l).la * (x - p.1)) = (bndF l).la * (x - p.1) := IntWalk.i64_in _ (by omega)
          obtain ⟨m, hm⟩ : ∃ m, (bndF l).la * (x - p.1) / (bndF l).lb = m := ⟨_, rfl⟩
          rw [hm] at hpre2 hpre3
          have hsw : IntKind.i64.wrap (p.2 + m) = p.2 + m := IntWalk.i64_in _ (by omega)
          have HM := Lib.hid hm
          have H1 := Lib.hid hpre1
          have H2 := Lib.hid hpre2
          have HC := Lib.hid hc
          clear hm hpre1 hpre2 hc c0 c1 hcc hp0 hsm
          go_wp2_with fail
          go_quiet ((go_at_call 100; exact Calls.quiet_of_same ((floorR_any ((bndF l).la * (x - p.1)) (bndF l).lb _ ⟨by omega, by omega⟩ s2 (by omega)).mono (fun _ _ h => ⟨by rw [h.1, HM.out], h.2.symm⟩))))
          have E2 : RngEnv w l (.slice (some ⟨b, off, none⟩) l.length cap) (wr.drewN nq) := ⟨below_drewN E.below _, E.s, E.pts⟩
          clear k0 k1 k2 k3 k4 kf klt c0' c1' hxp hmw hsw E
          generalize wr.drewN nq = w3 at *
          obtain ⟨v0, hv0⟩ : ∃ v0, p.2 + m = v0 := ⟨_, rfl⟩
          have HV0 := Lib.hid hv0
          rw [hv0] at hpre3
          obtain ⟨v01, v02⟩ := hpre3
          have H2' : Hid (∃ d : Nat, d ≤ 3 ∧ (posR l x (v0 + d) = true ∨ posR l x (v0 - d) = true)) := by have := H2.out; rw [hv0] at this; exact this
          have hokv : ∀ v, (withF (bndF l) l (x, v)).Nz := fun v => withF_nz HNZ.out (fun a ha => HXL.out a ha)
          have HOKV := Lib.hid hokv
          have hok2 : ∀ v, -1000000000 ≤ v → v ≤ 1000000000 → (withF (bndF l) l (x, v)).Ok := fun v a b => withF_ok hok (fun a ha => (hl a ha).ok) ⟨by dsimp only; omega, by dsimp only; omega, a, b⟩
          have HOK2 := Lib.hid hok2
          clear hokv hok2 H2
          rw [hv0]
          clear hv0
          go_upto_block 2 with fail
          go_cut [10] (fun u wx => ∃ v : Int, u = .int .i64 v ∧ posR l x v = true ∧ RngEnv w l (.slice (some ⟨b, off, none⟩) l.length cap) wx)
          case first =>
            go_wp2_with fail
            go_loopw [10, 11] (fun u d wr => ∃ e : Nat, u = .int .i64 v0 ∧ d = .int .i64 e ∧ Hid (∀ f : Nat, f < e → posR l x (v0 + f) = false ∧ posR l x (v0 - f) = false) ∧ e ≤ 4 ∧ RngEnv w l (.slice (some ⟨b, off, none⟩) l.length cap) wr) (fun _ d _ => (10 - intOf d).toNat)
            case atStart => exact ⟨0, rfl, rfl, fun f hf => by omega, by omega, E2⟩
            case round =>
              obtain ⟨e, rfl, rfl, hno, he4, E⟩ := hrel
              obtain ⟨wa, rfl⟩ : ∃ wo : World, wo = wr := ⟨_, rfl⟩
              have he3 : e ≤ 3 := by
                obtain ⟨d, hd, hor⟩ := H2'.out
                rcases Nat.lt_or_ge d e with g | g
                · obtain ⟨n1, n2⟩ := hno.out d g
                  rcases hor with h | h
                  · rw [h] at n1; cases n1
                  · rw [h] at n2; cases n2
                · omega
              obtain ⟨k0, k1, k2, k3, k4, kf, klt⟩ := E.s.d5
              go_wp2_with fail
              refine (more_any (bndF l) _ l (x, v0 + e) _ hok HNZ.out (fun a ha => (hl a ha).ok) ⟨by dsimp only; omega, by dsimp only; omega, by dsimp only; omega, by dsimp only; omega⟩ HXL.out E.pts).mono ?_
              rintro _ w4 ⟨rfl, hb4⟩
              go_wp2_with fail
              refine (some_any _ _ (HOK2.out (v0 + e) (by omega) (by omega)) (HOKV.out _)).mono ?_
              rintro _ w5 ⟨rfl, hb5⟩
              have E5 := (E.keep hb4).keep hb5
              clear k0 k1 k2 k3 k4 kf klt hb4 hb5 E
              cases hp1 : possF (withF (bndF l) l (x, v0 + e))
              · obtain ⟨k0, k1, k2, k3, k4, kf, klt⟩ := E5.s.d5
                have HP1 := Lib.hid hp1
                clear hp1
                go_wp2_with fail
                refine (more_any (bndF l) _ l (x, v0 - e) _ hok HNZ.out (fun a ha => (hl a ha).ok) ⟨by dsimp only; omega, by dsimp only; omega, by dsimp only; omega, by dsimp only; omega⟩ HXL.out E5.pts).mono ?_
                rintro _ w6 ⟨rfl, hb6⟩
                go_wp2_with fail
                refine (some_any _ _ (HOK2.out (v0 - e) (by omega) (by omega)) (HOKV.out _)).mono ?_
                rintro _ w7 ⟨rfl, hb7⟩
                have E7 := (E5.keep hb6).keep hb7
                clear k0 k1 k2 k3 k4 kf klt hb6 hb7 E5
                cases hp2 : possF (withF (bndF l) l (x, v0 - e))
                · have hno' : Hid (∀ f : Nat, f < e + 1 → posR l x (v0 + f) = false ∧ posR l x (v0 - f) = false) := fun f hf => by
                    rcases Nat.lt_or_ge f e with g | g
                    · exact hno.out f g
                    · obtain rfl : f = e := by omega
                      exact ⟨HP1.out, hp2⟩
                  clear hp2
                  go_wp2_with fail
                  go_roundw
                  case rel => exact ⟨e + 1, rfl, by go_num, hno', by omega, E7⟩
                  case measure => simp [intOf]; omega
                · have HP2 := Lib.hid hp2
                  clear hp2
                  go_wp2_with fail
                  go_meet
                  exact ⟨v0 - e, rfl, HP2.out, E7⟩
              · have HP1 := Lib.hid hp1
                clear hp1
                go_wp2_with fail
                go_meet
                exact ⟨v0 + e, rfl, HP1.out, E5⟩
          case rest =>
            clear E2
            obtain ⟨v, rfl, hv, E⟩ := hcut
            have hvb := H1.out v hv
            have HV := Lib.hid hv
            obtain ⟨k0, k1, k2, k3, k4, kf, klt⟩ := E.s.d5
            clear hv
            go_wp2_with fail
            refine (more_any (bndF l) _ l (x, v) _ hok HNZ.out (fun a ha => (hl a ha).ok) ⟨by dsimp only; omega, by dsimp only; omega, by dsimp only; omega, by dsimp only; omega⟩ HXL.out E.pts).mono ?_
            rintro _ w4 ⟨rfl, hb4⟩
            go_wp2_with fail
            have hsv := some_any _ w4 (HOK2.out v (by omega) (by omega)) (HOKV.out _)
            rw [show possF (withF (bndF l) l (x, v)) = true from HV.out] at hsv
            refine hsv.mono ?_
            rintro _ w5 ⟨rfl, hb5⟩
            have E5 := (E.keep hb4).keep hb5
            clear k0 k1 k2 k3 k4 kf klt hb4 hb5 E hsv
            go_wp2_with fail
            go_loopw [12] (fun u wr => ∃ lo : Int, u = .int .i64 lo ∧ Hid (posR l x lo = true) ∧ lo ≤ v ∧ RngEnv w l (.slice (some ⟨b, off, none⟩) l.length cap) wr) (fun u _ => (intOf u + 110000001).toNat)
            case atStart => exact ⟨v, rfl, HV.out, Int.le_refl _, E5⟩
            case round =>
              obtain ⟨lo, rfl, hlo, hlov, E⟩ := hrel
              obtain ⟨wa, rfl⟩ : ∃ wo : World, wo = wr := ⟨_, rfl⟩
              have hlb := H1.out lo hlo.out
              obtain ⟨k0, k1, k2, k3, k4, kf, klt⟩ := E.s.d5
              go_wp2_with fail
              refine (more_any (bndF l) _ l (x, lo - 1) _ hok HNZ.out (fun a ha => (hl a ha).ok) ⟨by dsimp only; omega, by dsimp only; omega, by dsimp only; omega, by dsimp only; omega⟩ HXL.out E.pts).mono ?_
              rintro _ w6 ⟨rfl, hb6⟩
              go_wp2_with fail
              refine (some_any _ _ (HOK2.out (lo - 1) (by omega) (by omega)) (HOKV.out _)).mono ?_
              rintro _ w7 ⟨rfl, hb7⟩
              have E7 := (E.keep hb6).keep hb7
              clear k0 k1 k2 k3 k4 kf klt hb6 hb7 E
              cases hp1 : possF (withF (bndF l) l (x, lo - 1))
              · have HP1 := Lib.hid hp1
                clear hp1
                go_wp2_with fail
                go_loopw [13] (fun u wr => ∃ hi : Int, u = .int .i64 hi ∧ Hid (posR l x hi = true) ∧ v ≤ hi ∧ RngEnv w l (.slice (some ⟨b, off, none⟩) l.length cap) wr) (fun u _ => (110000001 - intOf u).toNat)
                case atStart => exact ⟨v, rfl, HV.out, Int.le_refl _, E7⟩
                case round =>
                  obtain ⟨hi, rfl, hhi, hhiv, E⟩ := hrel
                  obtain ⟨wb, rfl⟩ : ∃ wo : World, wo = wr := ⟨_, rfl⟩
                  have hhb := H1.out hi hhi.out
                  obtain ⟨k0, k1, k2, k3, k4, kf, klt⟩ := E.s.d5
                  go_wp2_with fail
                  refine (more_any (bndF l) _ l (x, hi + 1) _ hok HNZ.out (fun a ha => (hl a ha).ok) ⟨by dsimp only; omega, by dsimp only; omega, by dsimp only; omega, by dsimp only; omega⟩ HXL.out E.pts).mono ?_
                  rintro _ w8 ⟨rfl, hb8⟩
                  go_wp2_with fail
                  refine (some_any _ _ (HOK2.out (hi + 1) (by omega) (by omega)) (HOKV.out _)).mono ?_
                  rintro _ w9 ⟨rfl, hb9⟩
                  have E9 := (E.keep hb8).keep hb9
                  clear k0 k1 k2 k3 k4 kf klt hb8 hb9 E
                  cases hp2 : possF (withF (bndF l) l (x, hi + 1))
                  · have hPA := fun u => poss_bnd (v := u) HI.out HXL.out
                    have hfin : SpanP l x (lo, hi, true) := by
                      refine .inr ⟨rfl, HREP.out.poss.1 HP.out, ⟨c, HC.out⟩, (hPA lo).1 hlo.out, (hPA hi).1 hhi.out, fun u hu => ?_⟩
                      constructor
                      · rcases Int.lt_or_le u lo with g | g
                        · have := (hPA (lo - 1)).2 (PossV.between hu ((hPA lo).1 hlo.out) (by omega) (by omega))
                          rw [HP1.out] at this; cases this
                        · exact g
                      · rcases Int.lt_or_le hi u with g | g
                        · have := (hPA (hi + 1)).2 (PossV.between ((hPA hi).1 hhi.out) hu (by omega) (by omega))
                          rw [hp2] at this; cases this
                        · exact g
                    have HFIN := Lib.hid hfin
                    have hBE := E9.below
                    clear hfin hPA hp2
                    go_wp2_with fail
                    go_ret3
                    exact ⟨_, HFIN.out, rfl, hBE⟩
                  · have HP2 := Lib.hid hp2
                    have hhb' := H1.out (hi + 1) hp2
                    clear hp2
                    go_wp2_with fail
                    go_roundw
                    case rel => exact ⟨hi + 1, rfl, HP2.out, by omega, E9⟩
                    case measure => simp [intOf]; omega
              · have HP1 := Lib.hid hp1
                have hlb' := H1.out (lo - 1) hp1
                clear hp1
                go_wp2_with fail
                go_roundw
                case rel => exact ⟨lo - 1, rfl, HP1.out, by omega, E7⟩
                case measure => simp [intOf]; omega
        · have hz1 : ((bndF l).lb == 0) = true := by rw [beq_iff_eq]; exact n2
          have hfin : SpanP l x (0, 0, false) := .inl ⟨rfl, .inr (by
            rcases HREP.out with ⟨-, h⟩ | ⟨h, -⟩
            · exact h
            · rw [h] at n1; cases n1)⟩
          have HFIN := Lib.hid hfin
          have hBE := E.below
          clear hfin n1 n2 n3
          go_wp2_with fail
          go_ret3
          exact ⟨_, HFIN.out, rfl, hBE⟩

end Go.Proofs.YtnfgedbcfclnmaaGreat
