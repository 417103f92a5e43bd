/- Loops over points: all, with; the reference's BoundsOf, More. -/
import Derived.Test.YtnfgedbcfclnmaaGreatTight
import Derived.Test.YtnfgedbcfclnmaaGreatKit2
import Derived.StillTailTactics
set_option linter.unusedVariables false
set_option linter.unusedSimpArgs false
namespace Go.Proofs.YtnfgedbcfclnmaaGreat
open Go.RowKit

/-- The slice value v reads as a list of points. -/
def PReads (w : World) (v : Value) (l : List (Int × Int)) : Prop :=
  ∃ a cap, v = .slice a l.length cap ∧ l.length ≤ cap ∧ cap ≤ maxLen ∧ (l = [] ∨ ∃ b off, a = some ⟨b, off, none⟩ ∧ b < w.heap.size ∧
    ∀ i p, l[i]? = some p → w.cell? ⟨b, off + i * 2, none⟩ = some (.int .i64 p.1) ∧ w.cell? ⟨b, off + i * 2 + 1, none⟩ = some (.int .i64 p.2))
theorem PReads.below {w w' : World} {v : Value} {l : List (Int × Int)} (h : PReads w v l) (hb : Below w.heap.size w w') : PReads w' v l := by
  obtain ⟨a, cap, hv, h1, h2, h3⟩ := h
  refine ⟨a, cap, hv, h1, h2, ?_⟩
  rcases h3 with h3 | ⟨b, off, ha, hlt, hc⟩
  · exact .inl h3
  · exact .inr ⟨b, off, ha, Nat.lt_of_lt_of_le hlt hb.size, fun i x hx => ⟨keep hb (hc i x hx).1 hlt, keep hb (hc i x hx).2 hlt⟩⟩

def Slo.zero : Slo := ⟨0, 0, 0, 0, false⟩
def withF (s : Slo) (l : List (Int × Int)) (p : Int × Int) : Slo := l.foldl (fun s a => joinF s a p) s

theorem zero_ok : Slo.zero.Ok := by unfold Slo.Ok Slo.zero; decide
theorem zero_nz : Slo.zero.Nz := .inr ⟨rfl, rfl, rfl⟩
theorem withF_ok {s : Slo} {l : List (Int × Int)} {p : Int × Int} (h : s.Ok) (hl : ∀ a ∈ l, PtOk a) (hp : PtOk p) : (withF s l p).Ok := by
  unfold withF
  induction l generalizing s with
  | nil => exact h
  | cons a l ih => exact ih (joinF_ok h (hl a (by simp)) hp) (fun b hb => hl b (by simp [hb]))
theorem withF_nz {s : Slo} {l : List (Int × Int)} {p : Int × Int} (h : s.Nz) (hl : ∀ a ∈ l, a.1 ≠ p.1) : (withF s l p).Nz := by
  unfold withF
  induction l generalizing s with
  | nil => exact h
  | cons a l ih => exact ih (joinF_nz h (hl a (by simp))) (fun b hb => hl b (by simp [hb]))
theorem withF_take {s : Slo} {l : List (Int × Int)} {p : Int × Int} {k : Nat} {a : Int × Int} (h : l[k]? = some a) : withF s (l.take (k + 1)) p = joinF (withF s (l.take k) p) a p := by
  unfold withF
  rw [List.take_add_one, h, List.foldl_append]; rfl
theorem joinF_bd {s : Slo} {a p : Int × Int} : (joinF s a p).bd = true := by unfold joinF Slo.add; split <;> rfl
theorem withF_bd {s : Slo} {l : List (Int × Int)} {p : Int × Int} (h : s.bd = true) : (withF s l p).bd = true := by
  unfold withF
  induction l generalizing s with
  | nil => exact h
  | cons a l ih => exact ih (by show (joinF s a p).bd = true; unfold joinF Slo.add; split <;> rfl)

set_option maxHeartbeats 2000000 in
theorem with_any (s : Slo) (pv : Value) (l : List (Int × Int)) (p : Int × Int) (w : World) (h : s.Ok) (hl : ∀ a ∈ l, PtOk a) (hp : PtOk p) (hne : ∀ a ∈ l, a.1 ≠ p.1) (hR : PReads w pv l) :
    Calls Tryz.prog 93 #[.agg #[.int .i64 s.la, .int .i64 s.lb, .int .i64 s.ha, .int .i64 s.hb, .bool s.bd, .bool false], pv, .agg #[.int .i64 p.1, .int .i64 p.2]] w
      fun e w' => e = .returned (.agg #[.int .i64 (withF s l p).la, .int .i64 (withF s l p).lb, .int .i64 (withF s l p).ha, .int .i64 (withF s l p).hb, .bool (withF s l p).bd, .bool false]) ∧ Below w.heap.size w w' := by
  obtain ⟨a, cap, rfl, hlc, hcm, hR'⟩ := hR
  have hlm : l.length ≤ 9223372036854775807 := Nat.le_trans hlc hcm
  go_enter Tryz.func93, Tryz.ntmps93
  go_wp2_with fail
  generalize hW0 : World.alloc (World.alloc (World.alloc w _) _) _ = W0
  have S0 : Blk W0 w.heap.size #[.int .i64 s.la, .int .i64 s.lb, .int .i64 s.ha, .int .i64 s.hb, .bool s.bd, .bool false] 113 := by rw [← hW0]; exact ((Blk.new _ _ _).alloc _).alloc _
  have P0 : Blk W0 (w.heap.size + 1) #[.int .i64 p.1, .int .i64 p.2] 109 := by rw [← hW0]; exact (Blk.newAt _ _ (by simp)).alloc _
  have R0 : Blk W0 (w.heap.size + 1 + 1) #[.int .i64 0, .int .i64 0, .int .i64 0, .int .i64 0, .bool false, .bool false] 113 := by rw [← hW0]; exact Blk.newAt _ _ (by simp)
  have hB0 : Below w.heap.size w W0 := by rw [← hW0]; exact (by repeat (first | (with_reducible exact Below.refl _ _) | (with_reducible assumption) | ((with_reducible refine Below.setCell ?_ ?_ _); rotate_left; (focus (first | omega | (simp; done) | (simp; omega)))) | (with_reducible refine Below.drew ?_) | (with_reducible refine below_drewN ?_ _) | ((with_reducible refine Below.alloc ?_ ?_ _); rotate_left; (focus (first | omega | (simp; done) | (simp; omega))))))
  clear hW0
  go_loopw [11] (fun i wr => ∃ k : Nat, k ≤ l.length ∧ i = .int .i64 k ∧ Below w.heap.size w wr ∧
      Blk wr w.heap.size #[.int .i64 (withF s (l.take k) p).la, .int .i64 (withF s (l.take k) p).lb, .int .i64 (withF s (l.take k) p).ha, .int .i64 (withF s (l.take k) p).hb, .bool (withF s (l.take k) p).bd, .bool false] 113 ∧
      Blk wr (w.heap.size + 1) #[.int .i64 p.1, .int .i64 p.2] 109 ∧ Blk wr (w.heap.size + 1 + 1) #[.int .i64 0, .int .i64 0, .int .i64 0, .int .i64 0, .bool false, .bool false] 113)
    (fun i _ => l.length - (intOf i).toNat)
  case atStart => exact ⟨0, Nat.zero_le _, rfl, hB0, by simpa [withF] using S0, P0, R0⟩
  case round =>
    obtain ⟨k, hk, rfl, hB, S, P, R⟩ := hrel
    obtain ⟨k0, k1, k2, k3, k4, k5, kf, klt⟩ := S.d6
    obtain ⟨p0, p1, pf, plt⟩ := P.d2
    have hslt := R.lt
    by_cases hlt : k < l.length
    · obtain ⟨q, hq⟩ : ∃ q, l[k]? = some q := ⟨_, List.getElem?_eq_getElem hlt⟩
      have hqm := List.mem_of_getElem? hq
      rcases hR' with hnil | ⟨b, off, rfl, hb, hc⟩
      · subst hnil; simp at hlt
      obtain ⟨c0, c1⟩ := hc k q hq
      have c0' := keep hB c0 hb
      have c1' := keep hB c1 hb
      clear c0 c1 hc
      have hts := withF_take (s := s) (p := p) hq
      have hok := withF_ok (l := l.take k) h (fun a ha => hl a (List.mem_of_mem_take ha)) hp
      have HT := Lib.hid hts
      have HQ := Lib.hid hq
      clear hts hq
      go_wp2_with fail
      refine (join_any (withF s (l.take k) p) q p _ hok (hl q hqm) hp (hne q hqm)).mono ?_
      rintro e w1 ⟨rfl, hb1⟩
      clear k0 k1 k2 k3 k4 k5 kf klt p0 p1 pf plt c0' c1'
      have hb2 := binto (below_alloc wr _) hb1
      have S1 := S.keep hb2 S.lt
      have P1 := P.keep hb2 P.lt
      have R1 := R.keep hb2 R.lt
      have hB1 := hB.trans (hb2.mono (by omega))
      obtain ⟨k0, k1, k2, k3, k4, k5, kf, klt⟩ := S1.d6
      go_wp2_with fail
      go_roundw
      case rel =>
        refine ⟨k + 1, by omega, by go_num, (by repeat (first | (with_reducible exact Below.refl _ _) | (with_reducible assumption) | ((with_reducible refine Below.setCell ?_ ?_ _); rotate_left; (focus (first | omega | (simp; done) | (simp; omega)))) | (with_reducible refine Below.drew ?_) | (with_reducible refine below_drewN ?_ _) | ((with_reducible refine Below.alloc ?_ ?_ _); rotate_left; (focus (first | omega | (simp; done) | (simp; omega)))))), ?_, P1.o6 (by omega), R1.o6 (by omega)⟩
        rw [HT.out, joinF_bd]
        exact S1.s6
      case measure => simp [intOf]; omega
    · obtain rfl : k = l.length := by omega
      obtain ⟨r0, r1, r2, r3, r4, r5, rf, rlt⟩ := R.d6
      rw [List.take_length] at k0 k1 k2 k3 k4
      go_wp2_with fail
      exact bodyPost_ret (v := .agg #[.int .i64 (withF s l p).la, .int .i64 (withF s l p).lb, .int .i64 (withF s l p).ha, .int .i64 (withF s l p).hb, .bool (withF s l p).bd, .bool false]) (by simp [results, Tryz.results93, go_sem, r0, r1, r2, r3, r4, r5, rf]) rfl ⟨rfl, (by repeat (first | (with_reducible exact Below.refl _ _) | (with_reducible assumption) | ((with_reducible refine Below.setCell ?_ ?_ _); rotate_left; (focus (first | omega | (simp; done) | (simp; omega)))) | (with_reducible refine Below.drew ?_) | (with_reducible refine below_drewN ?_ _) | ((with_reducible refine Below.alloc ?_ ?_ _); rotate_left; (focus (first | omega | (simp; done) | (simp; omega))))))⟩

set_option maxRecDepth 100000 in
set_option maxHeartbeats 4000000 in
theorem more_any (s : Slo) (pv : Value) (l : List (Int × Int)) (p : Int × Int) (w : World) (h : s.Ok) (hz : s.Nz) (hl : ∀ a ∈ l, PtOk a) (hp : PtOk p) (hne : ∀ a ∈ l, a.1 ≠ p.1) (hR : PReads w pv l) :
    Calls Tryz.prog 101 #[.agg #[.int .i64 s.la, .int .i64 s.lb, .int .i64 s.ha, .int .i64 s.hb, .bool false], pv, .agg #[.int .i64 p.1, .int .i64 p.2]] w
      fun e w' => e = .returned (.agg #[.int .i64 (withF s l p).la, .int .i64 (withF s l p).lb, .int .i64 (withF s l p).ha, .int .i64 (withF s l p).hb, .bool false]) ∧ Below w.heap.size w w' := by
  obtain ⟨a, cap, rfl, hlc, hcm, hR'⟩ := hR
  have hlm : l.length ≤ 9223372036854775807 := Nat.le_trans hlc hcm
  go_enter Tryz.func101, Tryz.ntmps101
  go_wp2_with fail
  generalize hW0 : World.alloc (World.alloc (World.alloc w _) _) _ = W0
  have S0 : Blk W0 w.heap.size #[.int .i64 s.la, .int .i64 s.lb, .int .i64 s.ha, .int .i64 s.hb, .bool false] 123 := by rw [← hW0]; exact ((Blk.new _ _ _).alloc _).alloc _
  have P0 : Blk W0 (w.heap.size + 1) #[.int .i64 p.1, .int .i64 p.2] 109 := by rw [← hW0]; exact (Blk.newAt _ _ (by simp)).alloc _
  have R0 : Blk W0 (w.heap.size + 1 + 1) #[.int .i64 0, .int .i64 0, .int .i64 0, .int .i64 0, .bool false] 123 := by rw [← hW0]; exact Blk.newAt _ _ (by simp)
  have hB0 : Below w.heap.size w W0 := by rw [← hW0]; exact (by repeat (first | (with_reducible exact Below.refl _ _) | (with_reducible assumption) | ((with_reducible refine Below.setCell ?_ ?_ _); rotate_left; (focus (first | omega | (simp; done) | (simp; omega)))) | (with_reducible refine Below.drew ?_) | (with_reducible refine below_drewN ?_ _) | ((with_reducible refine Below.alloc ?_ ?_ _); rotate_left; (focus (first | omega | (simp; done) | (simp; omega))))))
  clear hW0
  go_loopw [7] (fun i wr => ∃ k : Nat, k ≤ l.length ∧ i = .int .i64 k ∧ Below w.heap.size w wr ∧
      Blk wr w.heap.size #[.int .i64 (withF s (l.take k) p).la, .int .i64 (withF s (l.take k) p).lb, .int .i64 (withF s (l.take k) p).ha, .int .i64 (withF s (l.take k) p).hb, .bool false] 123 ∧
      Blk wr (w.heap.size + 1) #[.int .i64 p.1, .int .i64 p.2] 109 ∧ Blk wr (w.heap.size + 1 + 1) #[.int .i64 0, .int .i64 0, .int .i64 0, .int .i64 0, .bool false] 123)
    (fun i _ => l.length - (intOf i).toNat)
  case atStart => exact ⟨0, Nat.zero_le _, rfl, hB0, by simpa [withF] using S0, P0, R0⟩
  case round =>
    obtain ⟨k, hk, rfl, hB, S, P, R⟩ := hrel
    obtain ⟨k0, k1, k2, k3, k4, kf, klt⟩ := S.d5
    obtain ⟨p0, p1, pf, plt⟩ := P.d2
    have hslt := R.lt
    by_cases hlt : k < l.length
    · obtain ⟨q, hq⟩ : ∃ q, l[k]? = some q := ⟨_, List.getElem?_eq_getElem hlt⟩
      have hqm := List.mem_of_getElem? hq
      rcases hR' with hnil | ⟨b, off, rfl, hb, hc⟩
      · subst hnil; simp at hlt
      obtain ⟨c0, c1⟩ := hc k q hq
      have c0' := keep hB c0 hb
      have c1' := keep hB c1 hb
      clear c0 c1 hc
      have hts := withF_take (s := s) (p := p) hq
      have hok := withF_ok (l := l.take k) h (fun a ha => hl a (List.mem_of_mem_take ha)) hp
      have hnz := withF_nz (l := l.take k) (p := p) hz (fun a ha => hne a (List.mem_of_mem_take ha))
      have hli : decide ((k : Int) < (l.length : Int)) = true := by simp; omega
      have hblt : b < wr.heap.size := Nat.lt_of_lt_of_le hb hB.size
      have HT := Lib.hid hts
      have HQ := Lib.hid hq
      clear hts hq
      go_wp2_with fail
      go_still_tail 6, (by kernel_rfl)
      go_wp2_with fail
      refine (tighter_any (withF s (l.take k) p) q p _ hok hnz (hl q hqm) hp (hne q hqm)).mono ?_
      rintro e w1 ⟨rfl, hb1⟩
      clear k0 k1 k2 k3 k4 kf klt
      obtain ⟨k0, k1, k2, k3, k4, kf, klt⟩ := (S.drew.keep hb1 S.lt).d5
      have hb2 : Below wr.heap.size wr w1 := (Below.refl _ _).drew.trans hb1
      have S1 := S.keep hb2 S.lt
      have P1 := P.keep hb2 P.lt
      have R1 := R.keep hb2 R.lt
      have hB1 := hB.trans (hb2.mono (by omega))
      clear p0 p1 pf c0' c1'
      go_wp2_with fail
      go_roundw
      case rel =>
        refine ⟨k + 1, by omega, by go_num, (by repeat (first | (with_reducible exact Below.refl _ _) | (with_reducible assumption) | ((with_reducible refine Below.setCell ?_ ?_ _); rotate_left; (focus (first | omega | (simp; done) | (simp; omega)))) | (with_reducible refine Below.drew ?_) | (with_reducible refine below_drewN ?_ _) | ((with_reducible refine Below.alloc ?_ ?_ _); rotate_left; (focus (first | omega | (simp; done) | (simp; omega)))))), ?_, P1.o5 (by omega), R1.o5 (by omega)⟩
        rw [HT.out]
        exact S1.s5
      case measure => simp [intOf]; omega
    · obtain rfl : k = l.length := by omega
      obtain ⟨r0, r1, r2, r3, r4, rf, rlt⟩ := R.d5
      rw [List.take_length] at k0 k1 k2 k3
      go_wp2_with fail
      exact bodyPost_ret (v := .agg #[.int .i64 (withF s l p).la, .int .i64 (withF s l p).lb, .int .i64 (withF s l p).ha, .int .i64 (withF s l p).hb, .bool false]) (by simp [results, Tryz.results101, go_sem, r0, r1, r2, r3, r4, rf]) rfl ⟨rfl, (by repeat (first | (with_reducible exact Below.refl _ _) | (with_reducible assumption) | ((with_reducible refine Below.setCell ?_ ?_ _); rotate_left; (focus (first | omega | (simp; done) | (simp; omega)))) | (with_reducible refine Below.drew ?_) | (with_reducible refine below_drewN ?_ _) | ((with_reducible refine Below.alloc ?_ ?_ _); rotate_left; (focus (first | omega | (simp; done) | (simp; omega))))))⟩

end Go.Proofs.YtnfgedbcfclnmaaGreat
