/- The least and the greatest possible value: the program's farthest and span. -/
import Derived.Test.YtnfgedbcfclnmaaGreatLine
set_option linter.unusedVariables false
set_option linter.unusedSimpArgs false
namespace Go.Proofs.YtnfgedbcfclnmaaGreat
open Go.RowKit

/-- What the closure of span has captured. -/
structure CapEnv (bs bl bx : Nat) (s : Slo) (pv : Value) (l : List (Int × Int)) (x : Int) (w : World) : Prop where
  sb : Blk w bs #[.int .i64 s.la, .int .i64 s.lb, .int .i64 s.ha, .int .i64 s.hb, .bool s.bd, .bool false] 113
  lb : Blk w bl #[pv] 107
  xb : Blk w bx #[.int .i64 x] 3
  rd : PReads w pv l
theorem CapEnv.keep {bs bl bx : Nat} {s : Slo} {pv : Value} {l : List (Int × Int)} {x : Int} {w w1 : World} (h : CapEnv bs bl bx s pv l x w) (hb : Below w.heap.size w w1) : CapEnv bs bl bx s pv l x w1 :=
  ⟨h.sb.keep hb h.sb.lt, h.lb.keep hb h.lb.lt, h.xb.keep hb h.xb.lt, h.rd.below hb⟩

/-- Is v possible? -/
def posB (s : Slo) (l : List (Int × Int)) (x v : Int) : Bool := possF (withF s l (x, v))

set_option maxHeartbeats 1000000 in
theorem spanPos {bs bl bx : Nat} {s : Slo} {pv : Value} {l : List (Int × Int)} {x v : Int} {t : Bool} (ht : posB s l x v = t) {w : World} (E : CapEnv bs bl bx s pv l x w) (hs : s.Ok) (hl : ∀ a ∈ l, PtS a) (hx : 0 ≤ x ∧ x ≤ 10000)
    (hxl : ∀ a ∈ l, a.1 ≠ x) (hv : -1000000000 ≤ v ∧ v ≤ 1000000000) :
    Calls Tryz.prog 92 #[.int .i64 v, .pointer (some ⟨bs, 0, none⟩), .pointer (some ⟨bl, 0, none⟩), .pointer (some ⟨bx, 0, none⟩)] w fun e w' => e = .returned (.bool t) ∧ Below w.heap.size w w' := by
  obtain ⟨k0, k1, k2, k3, k4, k5, kf, klt⟩ := E.sb.d6
  obtain ⟨l0, lf, llt⟩ := E.lb.d1
  obtain ⟨x0, xf, xlt⟩ := E.xb.d1
  have hok := withF_ok (p := (x, v)) hs (fun a ha => (hl a ha).ok) ⟨by dsimp only; omega, by dsimp only; omega, by dsimp only; omega, by dsimp only; omega⟩
  have HT := Lib.hid ht
  clear ht
  go_enter Tryz.func92, Tryz.ntmps92
  go_wp2_with fail
  refine (with_any s pv l (x, v) _ hs (fun a ha => (hl a ha).ok) ⟨by dsimp only; omega, by dsimp only; omega, by dsimp only; omega, by dsimp only; omega⟩ hxl E.rd).mono ?_
  rintro e w1 ⟨rfl, hb1⟩
  go_wp2_with fail
  refine (possible_any _ _ hok).mono ?_
  rintro e w2 ⟨rfl, hb2⟩
  go_wp2_with fail
  go_ret
  exact ⟨ret_bool HT.out, binto hb1 hb2⟩

/-- What farthest needs of the question it asks. -/
structure FarPre (p : Int → Bool) : Prop where
  bd : ∀ v, p v = true → -110000000 ≤ v ∧ v ≤ 110000000
  conv : ∀ u v w, p u = true → p w = true → u ≤ v → v ≤ w → p v = true

theorem far_no {p : Int → Bool} (h : FarPre p) {f d t : Int} (hd : d = 1 ∨ d = -1) (hf : p f = true) (ht : 0 ≤ t) (hn : p (f + d * t) = false) : ∀ u, t ≤ u → p (f + d * u) = false := by
  intro u hu
  cases hp : p (f + d * u) with
  | false => rfl
  | true =>
    rcases hd with rfl | rfl
    · have := h.conv _ (f + 1 * t) _ hf hp (by omega) (by omega)
      rw [this] at hn; cases hn
    · have := h.conv _ (f + -1 * t) _ hp hf (by omega) (by omega)
      rw [this] at hn; cases hn

/-- The state of the second loop: nothing from 2t on. -/
def FarSt (p : Int → Bool) (d f t : Int) : Prop := p f = true ∧ (t = 0 ∨ ∃ j : Nat, t = 2 ^ j) ∧ ∀ u, 2 * t ≤ u → 1 ≤ u → p (f + d * u) = false

theorem far_half {t : Int} (h : t = 0 ∨ ∃ j : Nat, t = 2 ^ j) : (t / 2 = 0 ∨ ∃ j : Nat, t / 2 = 2 ^ j) ∧ (t = 0 ∨ t = 1 ∨ 2 * (t / 2) = t) := by
  rcases h with rfl | ⟨j, rfl⟩
  · exact ⟨.inl rfl, .inl rfl⟩
  · cases j with
    | zero => exact ⟨.inl (by decide), .inr (.inl (by decide))⟩
    | succ j =>
      have e : (2 : Int) ^ (j + 1) = 2 ^ j * 2 := by rw [Int.pow_succ]
      rw [e, Int.mul_ediv_cancel _ (by decide)]
      exact ⟨.inr ⟨j, rfl⟩, .inr (.inr (by omega))⟩

theorem FarSt.yes {p : Int → Bool} {d f t : Int} (h : FarSt p d f t) (ht : 0 < t) (hp : p (f + d * t) = true) : FarSt p d (f + d * t) (t / 2) := by
  obtain ⟨h1, h2, h3⟩ := h
  obtain ⟨e1, e2⟩ := far_half h2
  refine ⟨hp, e1, fun u hu hu1 => ?_⟩
  have := h3 (t + u) (by omega) (by omega)
  have e : f + d * t + d * u = f + d * (t + u) := by rw [Int.mul_add]; omega
  rw [e]; exact this
theorem FarSt.no {p : Int → Bool} (hF : FarPre p) {d f t : Int} (hd : d = 1 ∨ d = -1) (h : FarSt p d f t) (ht : 0 < t) (hp : p (f + d * t) = false) : FarSt p d f (t / 2) := by
  obtain ⟨h1, h2, h3⟩ := h
  obtain ⟨e1, e2⟩ := far_half h2
  exact ⟨h1, e1, fun u hu hu1 => far_no hF hd h1 (Int.le_of_lt ht) hp u (by omega)⟩

set_option maxHeartbeats 2000000 in
theorem farthest_any {bs bl bx : Nat} {s : Slo} {pv : Value} {l : List (Int × Int)} {x f d : Int} {w : World} (E : CapEnv bs bl bx s pv l x w) (hs : s.Ok) (hl : ∀ a ∈ l, PtS a) (hx : 0 ≤ x ∧ x ≤ 10000)
    (hxl : ∀ a ∈ l, a.1 ≠ x) (hF : FarPre (posB s l x)) (hd : d = 1 ∨ d = -1) (hf : posB s l x f = true) :
    Calls Tryz.prog 94 #[.int .i64 f, .int .i64 d, .func (Fn.func 92) #[] #[.pointer (some ⟨bs, 0, none⟩), .pointer (some ⟨bl, 0, none⟩), .pointer (some ⟨bx, 0, none⟩)]] w
      (RetEx (fun r => posB s l x r = true ∧ ∀ u, 1 ≤ u → posB s l x (r + d * u) = false) (fun r => .int .i64 r) w) := by
  obtain ⟨f1, f2⟩ := hF.bd f hf
  have HF := Lib.hid hf
  have HX := Lib.hid hxl
  have HD := Lib.hid hd
  have hd2 : -1 ≤ d ∧ d ≤ 1 := by omega
  obtain ⟨d1, d2⟩ := hd2
  clear hf hxl hd
  have hmul : ∀ t : Int, 0 ≤ t → t ≤ 500000000 → -500000000 ≤ d * t ∧ d * t ≤ 500000000 := fun t h1 h2 => by
    rcases HD.out with rfl | rfl <;> omega
  have HM := Lib.hid hmul
  clear hmul
  go_enter Tryz.func94, Tryz.ntmps94
  go_wp2_with fail
  go_loopw [7] (fun t wr => ∃ t' : Int, t = .int .i64 t' ∧ 1 ≤ t' ∧ t' ≤ 500000000 ∧ Hid (∃ j : Nat, t' = 2 ^ j) ∧ Below w.heap.size w wr) (fun t _ => (500000000 - intOf t).toNat)
  case atStart => exact ⟨1, rfl, by omega, by omega, ⟨0, rfl⟩, Below.refl _ _⟩
  case round =>
    obtain ⟨t, rfl, ht1, ht2, hj, hB⟩ := hrel
    obtain ⟨wa, rfl⟩ : ∃ wo : World, wo = wr := ⟨_, rfl⟩
    have E1 := E.keep hB
    obtain ⟨m1, m2⟩ := HM.out t (by omega) ht2
    cases hp : posB s l x (f + d * t)
    · go_wp2_with fail
      refine (spanPos hp E1 hs hl hx HX.out ⟨by omega, by omega⟩).mono ?_
      rintro e w1 ⟨rfl, hb1⟩
      have hB1 := hB.trans (hb1.mono hB.size)
      have hst : FarSt (posB s l x) d f t := ⟨HF.out, .inr hj.out, fun u hu _ => far_no hF HD.out HF.out (by omega) hp u (by omega)⟩
      have HST := Lib.hid hst
      clear hst hp hb1 E1 m1 m2 hB
      go_wp2_with fail
      go_loopw [0, 7] (fun g t wr => ∃ g' t' : Int, g = .int .i64 g' ∧ t = .int .i64 t' ∧ 0 ≤ t' ∧ t' ≤ 500000000 ∧ Hid (FarSt (posB s l x) d g' t') ∧ Below w.heap.size w wr) (fun _ t _ => (intOf t).toNat)
      case atStart => exact ⟨f, t, rfl, rfl, by omega, ht2, HST.out, hB1⟩
      case round =>
        obtain ⟨g, t2, rfl, rfl, hg1, hg2, hst, hB2⟩ := hrel
        obtain ⟨wb, rfl⟩ : ∃ wo : World, wo = wr := ⟨_, rfl⟩
        have E1 := E.keep hB2
        obtain ⟨m1, m2⟩ := HM.out t2 (by omega) hg2
        obtain ⟨g1, g2⟩ := hF.bd g hst.out.1
        by_cases ht0 : 0 < t2
        · cases hp : posB s l x (g + d * t2)
          · have hst' := FarSt.no hF HD.out hst.out ht0 hp
            have HST' := Lib.hid hst'
            clear hst'
            go_wp2_with fail
            refine (spanPos hp E1 hs hl hx HX.out ⟨by omega, by omega⟩).mono ?_
            rintro e w1 ⟨rfl, hb1⟩
            have hB3 := hB2.trans (hb1.mono hB2.size)
            clear hp
            go_wp2_with fail
            go_roundw
            case rel => exact ⟨g, t2 / 2, rfl, rfl, by omega, by omega, HST'.out, hB3⟩
            case measure => simp [intOf]; omega
          · have hst' := FarSt.yes hst.out ht0 hp
            have HST' := Lib.hid hst'
            clear hst'
            go_wp2_with fail
            refine (spanPos hp E1 hs hl hx HX.out ⟨by omega, by omega⟩).mono ?_
            rintro e w1 ⟨rfl, hb1⟩
            have hB3 := hB2.trans (hb1.mono hB2.size)
            clear hp
            go_wp2_with fail
            go_roundw
            case rel => exact ⟨g + d * t2, t2 / 2, rfl, rfl, by omega, by omega, HST'.out, hB3⟩
            case measure => simp [intOf]; omega
        · obtain rfl : t2 = 0 := by omega
          have hfin : posB s l x g = true ∧ ∀ u, 1 ≤ u → posB s l x (g + d * u) = false := ⟨hst.out.1, fun u hu => hst.out.2.2 u (by omega) hu⟩
          have HFIN := Lib.hid hfin
          clear hfin
          go_wp2_with fail
          go_ret
          exact ⟨g, HFIN.out, rfl, hB2⟩
    · have hb := hF.bd _ hp
      have ht3 : t ≤ 220000000 := by rcases HD.out with h | h <;> rw [h] at hb <;> omega
      have hj2 : Hid (∃ j : Nat, t * 2 = 2 ^ j) := by
        obtain ⟨j, hj'⟩ := hj.out
        exact ⟨j + 1, by rw [Int.pow_succ, ← hj']⟩
      go_wp2_with fail
      refine (spanPos hp E1 hs hl hx HX.out ⟨by omega, by omega⟩).mono ?_
      rintro e w1 ⟨rfl, hb1⟩
      have hB3 := hB.trans (hb1.mono hB.size)
      clear hp
      go_wp2_with fail
      go_roundw
      case rel => exact ⟨t * 2, rfl, by omega, by omega, hj2, hB3⟩
      case measure => simp [intOf]; omega

theorem rep_small {s : Slo} {l : List (Int × Int)} (hl : ∀ a ∈ l, PtS a) (h : Rep s (listC l)) (hbd : s.bd = true) (hp : possF s = true) : SloS s ∧ ∃ c, listC l c := by
  rcases h with ⟨e, _⟩ | ⟨-, k2, k3, k4, ⟨cl, j1, j2, j3⟩, k6, ⟨ch, i1, i2, i3⟩, k8⟩
  · rw [e] at hbd; cases hbd
  simp only [possF, hbd, lessB, Bool.not_true, Bool.false_or, decide_eq_true_eq] at hp
  obtain ⟨b1, b2, b3, b4⟩ := listC_bd hl j1
  obtain ⟨d1, d2, d3, d4⟩ := listC_bd hl i1
  exact ⟨⟨hbd, by omega, by omega, by omega, by omega, by omega, by omega, by omega, by omega, hp⟩, cl, j1⟩

theorem far_pre {l : List (Int × Int)} (hl : ∀ a ∈ l, PtS a) (hi : Incr l) {x : Int} (hx : 0 ≤ x ∧ x ≤ 10000) (hxl : ∀ a ∈ l, a.1 ≠ x) {c : Int × Int} (hc : listC l c) : FarPre (posB (allF l) l x) where
  bd := fun v hv => PossV.bound hl hx hxl hc ((poss_all hi hxl).1 hv)
  conv := fun u v w h1 h2 h3 h4 => (poss_all hi hxl).2 (PossV.between ((poss_all hi hxl).1 h1) ((poss_all hi hxl).1 h2) h3 h4)

/-- What span returns. -/
def SpanP (l : List (Int × Int)) (x : Int) (r : Int × Int × Bool) : Prop :=
  (r = (0, 0, false) ∧ (¬ Cons (listC l) ∨ ∀ c, ¬ listC l c)) ∨
  (r.2.2 = true ∧ Cons (listC l) ∧ (∃ c, listC l c) ∧ PossV l x r.1 ∧ PossV l x r.2.1 ∧ (∀ v, PossV l x v → r.1 ≤ v ∧ v ≤ r.2.1))

theorem allF_nil : allF [] = Slo.zero := rfl

set_option maxRecDepth 100000 in
set_option maxHeartbeats 4000000 in
theorem span_any (pv : Value) (l : List (Int × Int)) (x : Int) (w : World) (hl : ∀ a ∈ l, PtS a) (hi : Incr l) (hx : 0 ≤ x ∧ x ≤ 10000) (hxl : ∀ a ∈ l, a.1 ≠ x) (hR : PReads w pv l) :
    Calls Tryz.prog 72 #[pv, .agg #[.int .i64 (allF l).la, .int .i64 (allF l).lb, .int .i64 (allF l).ha, .int .i64 (allF l).hb, .bool (allF l).bd, .bool false], .int .i64 x] w
      (RetEx (SpanP l x) (fun r => .tuple #[.int .i64 r.1, .int .i64 r.2.1, .bool r.2.2]) w) := by
  have hR0 := hR
  obtain ⟨a, cap, rfl, hlc, hcm, hR'⟩ := hR
  have hlm : l.length ≤ 9223372036854775807 := Nat.le_trans hlc hcm
  have HR := Lib.hid hR'
  clear hR'
  have hrep := rep_all hi
  have hok : (allF l).Ok := allTo_ok (fun a ha => (hl a ha).ok) _ (Nat.le_refl _)
  have HI := Lib.hid hi
  have HXL := Lib.hid hxl
  generalize hs : allF l = s at *
  have HS := Lib.hid hs
  have HREP := Lib.hid hrep
  clear hi hs hrep hxl
  have hmf : ∀ (fn : Fn) (first cap : Array Value) (w : World), (Instr.makeFunc fn first cap).run Tryz.prog w = .ok (.func fn first cap) w := fun _ _ _ _ => rfl
  go_enter Tryz.func72, Tryz.ntmps72
  go_wp2_with fail
  generalize hW0 : World.alloc (World.alloc (World.alloc w _) _) _ = W0
  have hB0 : Below w.heap.size w W0 := by rw [← hW0]; exact (by repeat (first | (with_reducible exact Below.refl _ _) | (with_reducible assumption) | ((with_reducible refine Below.setCell ?_ ?_ _); rotate_left; (focus (first | omega | (simp; done) | (simp; omega)))) | (with_reducible refine Below.drew ?_) | (with_reducible refine below_drewN ?_ _) | ((with_reducible refine Below.alloc ?_ ?_ _); rotate_left; (focus (first | omega | (simp; done) | (simp; omega))))))
  have E0 : CapEnv (w.heap.size + 1) w.heap.size (w.heap.size + 1 + 1) s (.slice a l.length cap) l x W0 := by
    refine ⟨?_, ?_, ?_, hR0.below hB0⟩
    · rw [← hW0]; exact (Blk.newAt _ _ (by simp)).alloc _
    · rw [← hW0]; exact ((Blk.new _ _ _).alloc _).alloc _
    · rw [← hW0]; exact Blk.newAt _ _ (by simp)
  clear hW0
  refine (possible_any s _ hok).mono ?_
  rintro e w1 ⟨rfl, hb1⟩
  have hB1 := binto hB0 hb1
  have E1 := E0.keep hb1
  clear E0 hB0 hb1
  cases hp : possF s
  · have hfin : SpanP l x (0, 0, false) := .inl ⟨rfl, .inl (fun hc => by rw [HREP.out.poss.2 hc] at hp; cases hp)⟩
    have HFIN := Lib.hid hfin
    clear hfin hp
    go_wp2_with fail
    go_ret3
    exact ⟨_, HFIN.out, rfl, hB1⟩
  · have HP := Lib.hid hp
    clear hp
    obtain ⟨l0, lf, llt⟩ := E1.lb.d1
    go_wp2_with fail
    clear l0 lf llt
    go_loopw [19] (fun i wr => ∃ k : Nat, k ≤ l.length ∧ i = .int .i64 k ∧ Below w.heap.size w wr ∧ CapEnv (w.heap.size + 1) w.heap.size (w.heap.size + 1 + 1) s (.slice a l.length cap) l x wr) (fun i _ => l.length - (intOf i).toNat)
    case atStart => exact ⟨0, Nat.zero_le _, rfl, hB1, E1⟩
    case round =>
      obtain ⟨k, hk, rfl, hB, E⟩ := hrel
      obtain ⟨x0, xf, xlt⟩ := E.xb.d1
      by_cases hlt : k < l.length
      · obtain ⟨q, hq⟩ : ∃ q, l[k]? = some q := ⟨_, List.getElem?_eq_getElem hlt⟩
        have hqm := List.mem_of_getElem? hq
        have hqx := HXL.out q hqm
        have hqb : (q.1 == x) = false := by rw [beq_eq_false_iff_ne]; exact hqx
        rcases HR.out with hnil | ⟨b, off, hae, hb, hc⟩
        · rw [hnil] at hlt; simp at hlt
        subst hae
        obtain ⟨c0, c1⟩ := hc k q hq
        have c0' := keep hB c0 hb
        have c1' := keep hB c1 hb
        have HQ := Lib.hid hq
        clear c0 c1 hc hq hqx
        go_wp2_with fail
        go_roundw
        case rel => exact ⟨k + 1, by omega, by go_num, (by repeat (first | (with_reducible exact Below.refl _ _) | (with_reducible assumption) | ((with_reducible refine Below.setCell ?_ ?_ _); rotate_left; (focus (first | omega | (simp; done) | (simp; omega)))) | (with_reducible refine Below.drew ?_) | (with_reducible refine below_drewN ?_ _) | ((with_reducible refine Below.alloc ?_ ?_ _); rotate_left; (focus (first | omega | (simp; done) | (simp; omega)))))), E.keep (below_alloc _ _)⟩
        case measure => simp [intOf]; omega
      · obtain rfl : k = l.length := by omega
        obtain ⟨k0, k1, k2, k3, k4, k5, kf, klt⟩ := E.sb.d6
        obtain ⟨l0, lf, llt⟩ := E.lb.d1
        cases hbd : s.bd
        · rw [hbd] at k4
          have hfin : SpanP l x (0, 0, false) := .inl ⟨rfl, .inr (by
            rcases HREP.out with ⟨-, h⟩ | ⟨h, -⟩
            · exact h
            · rw [h] at hbd; cases hbd)⟩
          have HFIN := Lib.hid hfin
          clear hfin hbd
          go_wp2_with fail
          go_ret3
          exact ⟨_, HFIN.out, rfl, hB⟩
        · rw [hbd] at k4
          obtain ⟨hsm, c, hc⟩ := rep_small hl HREP.out hbd HP.out
          have hne : l ≠ [] := fun e => by
            obtain ⟨i, j, p, q, h1, -⟩ := hc
            rw [e] at h1; simp at h1
          have HC := Lib.hid hc
          have HBD := Lib.hid hbd
          have HLI := line_any s (.slice a l.length cap) l wr hsm hl hne E.rd
          rw [hbd] at HLI
          have HLI := Lib.hid HLI
          clear hc hbd hne
          go_wp2_with fail
          refine HLI.out.mono ?_
          rintro e w2 ⟨⟨P, Q, B⟩, hli, rfl, hb2⟩
          clear k0 k1 k2 k3 k4 k5 kf klt l0 lf llt x0 xf xlt
          have hB2 := hB.trans (hb2.mono hB.size)
          have E2 := E.keep hb2
          clear E hB hb2
          obtain ⟨⟨g1, g2, g3, g4, g5, g6⟩, hIB⟩ := hli
          dsimp only at g1 g2 g3 g4 g5 g6 hIB
          have hfits := HREP.out.fits HBD.out g1 g5 g6
          have hmid := (poss_all HI.out HXL.out).2 (mid_poss (x := x) hl HI.out g1 hfits hIB)
          rw [HS.out] at hmid
          have hFP := far_pre hl HI.out hx HXL.out HC.out
          rw [HS.out] at hFP
          have hBb := (BTo.bd (.inr hIB) hl ⟨g3, g4⟩ ⟨g1, g2⟩)
          obtain ⟨b1, b2⟩ := hBb
          have hPx := mul_bd (A := 30000) (B := 10000) ⟨g3, g4⟩ hx (by omega)
          obtain ⟨x1, x2⟩ := hPx
          clear g5 g6 hIB hfits
          generalize hmm : (P * x + B) / Q = m at *
          have HMM := Lib.hid hmm
          clear hmm
          have HMID := Lib.hid hmid
          clear hmid
          obtain ⟨x0, xf, xlt⟩ := E2.xb.d1
          go_wp2_with fail
          refine (floorP_any _ _ _ ⟨by omega, by omega⟩ g1 (by omega)).mono ?_
          rintro e w3 ⟨rfl, rfl⟩
          rw [HMM.out]
          go_wp2_with fail
          have E3 := E2.keep (below_alloc w2 (Obj.cells #[Value.int .i64 P, Value.int .i64 Q, Value.int .i64 B] 135))
          refine (farthest_any E3 hok hl hx HXL.out hFP (.inr rfl) HMID.out).mono ?_
          rintro e w4 ⟨lo, ⟨hlo1, hlo2⟩, rfl, hb4⟩
          have E4 := E3.keep hb4
          have HLO1 := Lib.hid hlo1
          have HLO2 := Lib.hid hlo2
          clear hlo1 hlo2
          have hB4 : Below w.heap.size w w4 := binto (hB2.alloc hB2.size _) hb4
          clear x0 xf xlt E2 E3 hB2 hb4
          go_wp2_with fail
          refine (farthest_any E4 hok hl hx HXL.out hFP (.inl rfl) HMID.out).mono ?_
          rintro e w5 ⟨hi, ⟨hhi1, hhi2⟩, rfl, hb5⟩
          have hfin : SpanP l x (lo, hi, true) := by
            have hPA := fun v => poss_all (v := v) HI.out HXL.out
            rw [HS.out] at hPA
            refine .inr ⟨rfl, HREP.out.poss.1 HP.out, ⟨c, HC.out⟩, (hPA lo).1 HLO1.out, (hPA hi).1 hhi1, fun v hv => ?_⟩
            have hv' := (hPA v).2 hv
            constructor
            · rcases Int.lt_or_le v lo with g | g
              · have := HLO2.out (lo - v) (by omega)
                have e : lo + -1 * (lo - v) = v := by omega
                rw [e] at this
                rw [posB, hv'] at this; cases this
              · exact g
            · rcases Int.lt_or_le hi v with g | g
              · have := hhi2 (v - hi) (by omega)
                have e : hi + 1 * (v - hi) = v := by omega
                rw [e] at this
                rw [posB, hv'] at this; cases this
              · exact g
          have HFIN := Lib.hid hfin
          clear hfin hhi1 hhi2
          have hB5 := binto hB4 hb5
          go_wp2_with fail
          go_ret3
          exact ⟨_, HFIN.out, rfl, hB5⟩

end Go.Proofs.YtnfgedbcfclnmaaGreat
