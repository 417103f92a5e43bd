/- All pairs of points: the program's all, the reference's BoundsOf. -/
import Derived.Test.YtnfgedbcfclnmaaGreatPts
set_option linter.unusedVariables false
set_option linter.unusedSimpArgs false
namespace Go.Proofs.YtnfgedbcfclnmaaGreat
open Go.RowKit

def rowF (s : Slo) (a : Int × Int) (l : List (Int × Int)) : Slo := l.foldl (fun s b => joinF s a b) s
def allTo (l : List (Int × Int)) : Nat → Slo
  | 0 => Slo.zero
  | k + 1 => rowF (allTo l k) (l.getD k (0, 0)) (l.take k)
def allF (l : List (Int × Int)) : Slo := allTo l l.length
def bndTo (l : List (Int × Int)) : Nat → Slo
  | 0 => Slo.zero
  | k + 1 => rowF (bndTo l k) (l.getD k (0, 0)) (l.drop (k + 1))
def bndF (l : List (Int × Int)) : Slo := bndTo l l.length

theorem rowF_ok {s : Slo} {l : List (Int × Int)} {p : Int × Int} (h : s.Ok) (hl : ∀ a ∈ l, PtOk a) (hp : PtOk p) : (rowF s p l).Ok := by
  unfold rowF
  induction l generalizing s with
  | nil => exact h
  | cons a l ih => exact ih (joinF_ok h hp (hl a (by simp))) (fun b hb => hl b (by simp [hb]))
theorem rowF_nz {s : Slo} {l : List (Int × Int)} {p : Int × Int} (h : s.Nz) (hl : ∀ a ∈ l, p.1 ≠ a.1) : (rowF s p l).Nz := by
  unfold rowF
  induction l generalizing s with
  | nil => exact h
  | cons a l ih => exact ih (joinF_nz h (hl a (by simp))) (fun b hb => hl b (by simp [hb]))
theorem rowF_snoc {s : Slo} {l : List (Int × Int)} {p : Int × Int} {a : Int × Int} : rowF s p (l ++ [a]) = joinF (rowF s p l) p a := by
  unfold rowF
  rw [List.foldl_append]; rfl
theorem take_snoc' {α : Type} {l : List α} {k : Nat} {a : α} (h : l[k]? = some a) : l.take (k + 1) = l.take k ++ [a] := by
  rw [List.take_add_one, h]; rfl

theorem allTo_ok {l : List (Int × Int)} (hl : ∀ a ∈ l, PtOk a) : ∀ k, k ≤ l.length → (allTo l k).Ok
  | 0, _ => zero_ok
  | k + 1, hk => rowF_ok (allTo_ok hl k (by omega)) (fun a ha => hl a (List.mem_of_mem_take ha)) (hl _ (List.mem_of_getElem? (getD_some (by omega))))
theorem bndTo_ok {l : List (Int × Int)} (hl : ∀ a ∈ l, PtOk a) : ∀ k, k ≤ l.length → (bndTo l k).Ok
  | 0, _ => zero_ok
  | k + 1, hk => rowF_ok (bndTo_ok hl k (by omega)) (fun a ha => hl a (List.mem_of_mem_drop ha)) (hl _ (List.mem_of_getElem? (getD_some (by omega))))

/-- Increasing columns. -/
def Incr (l : List (Int × Int)) : Prop := ∀ (i j : Nat) (p q : Int × Int), l[i]? = some p → l[j]? = some q → i < j → p.1 < q.1
theorem Incr.ne {l : List (Int × Int)} (h : Incr l) {i j : Nat} {p q : Int × Int} (hi : l[i]? = some p) (hj : l[j]? = some q) (hne : i ≠ j) : p.1 ≠ q.1 := by
  rcases Nat.lt_or_gt_of_ne hne with g | g
  · exact Int.ne_of_lt (h i j p q hi hj g)
  · exact (Int.ne_of_lt (h j i q p hj hi g)).symm

theorem bndTo_nz {l : List (Int × Int)} (hi : Incr l) : ∀ k, k ≤ l.length → (bndTo l k).Nz
  | 0, _ => zero_nz
  | k + 1, hk => rowF_nz (bndTo_nz hi k (by omega)) (fun a ha => by
      obtain ⟨j, hj⟩ := List.getElem?_of_mem ha
      rw [List.getElem?_drop] at hj
      exact hi.ne (getD_some (d := (0, 0)) (by omega : k < l.length)) hj (by omega))

set_option maxRecDepth 100000 in
set_option maxHeartbeats 2000000 in
theorem all_any (pv : Value) (l : List (Int × Int)) (w : World) (hl : ∀ a ∈ l, PtOk a) (hi : Incr l) (hR : PReads w pv l) :
    Calls Tryz.prog 71 #[pv] w
      fun e w' => e = .returned (.agg #[.int .i64 (allF l).la, .int .i64 (allF l).lb, .int .i64 (allF l).ha, .int .i64 (allF l).hb, .bool (allF l).bd, .bool false]) ∧ Below w.heap.size w w' := by
  obtain ⟨a, cap, rfl, hlc, hcm, hR'⟩ := hR
  have hlm : l.length ≤ 9223372036854775807 := Nat.le_trans hlc hcm
  go_enter Tryz.func71, Tryz.ntmps71
  go_wp2_with fail
  generalize hW0 : World.alloc (World.alloc w _) _ = W0
  have R0 : Blk W0 w.heap.size #[.int .i64 0, .int .i64 0, .int .i64 0, .int .i64 0, .bool false, .bool false] 113 := by rw [← hW0]; exact (Blk.new _ _ _).alloc _
  have S0 : Blk W0 (w.heap.size + 1) #[.int .i64 0, .int .i64 0, .int .i64 0, .int .i64 0, .bool false, .bool false] 113 := by rw [← hW0]; exact Blk.newAt _ _ (by simp)
  have hB0 : Below w.heap.size w W0 := by rw [← hW0]; exact (by repeat (first | (with_reducible exact Below.refl _ _) | (with_reducible assumption) | ((with_reducible refine Below.setCell ?_ ?_ _); rotate_left; (focus (first | omega | (simp; done) | (simp; omega)))) | (with_reducible refine Below.drew ?_) | (with_reducible refine below_drewN ?_ _) | ((with_reducible refine Below.alloc ?_ ?_ _); rotate_left; (focus (first | omega | (simp; done) | (simp; omega))))))
  clear hW0
  go_loopw [10] (fun i wr => ∃ k : Nat, k ≤ l.length ∧ i = .int .i64 k ∧ Below w.heap.size w wr ∧
      Blk wr w.heap.size #[.int .i64 0, .int .i64 0, .int .i64 0, .int .i64 0, .bool false, .bool false] 113 ∧
      Blk wr (w.heap.size + 1) #[.int .i64 (allTo l k).la, .int .i64 (allTo l k).lb, .int .i64 (allTo l k).ha, .int .i64 (allTo l k).hb, .bool (allTo l k).bd, .bool false] 113)
    (fun i _ => l.length - (intOf i).toNat)
  case atStart => exact ⟨0, Nat.zero_le _, rfl, hB0, R0, S0⟩
  case round =>
    obtain ⟨k, hk, rfl, hB, R, S⟩ := hrel
    obtain ⟨wa, rfl⟩ : ∃ wo : World, wo = wr := ⟨_, rfl⟩
    by_cases hlt : k < l.length
    · obtain ⟨p, hp⟩ : ∃ p, l[k]? = some p := ⟨_, List.getElem?_eq_getElem hlt⟩
      have hpg : l.getD k (0, 0) = p := by simp [List.getD, hp]
      have hpm := List.mem_of_getElem? hp
      rcases hR' with hnil | ⟨b, off, rfl, hb, hc⟩
      · subst hnil; simp at hlt
      obtain ⟨c0, c1⟩ := hc k p hp
      have c0' := keep hB c0 hb
      have c1' := keep hB c1 hb
      clear c0 c1
      have hslt := R.lt
      have hslt' := S.lt
      have hsucc : allTo l (k + 1) = rowF (allTo l k) p (l.take k) := by rw [allTo, hpg]
      have HS := Lib.hid hsucc
      have HP := Lib.hid hp
      have HC := Lib.hid hc
      clear hsucc hp hpg hc
      go_wp2_with fail
      clear c0' c1'
      go_loopw [19] (fun j wr => ∃ m : Nat, m ≤ k ∧ j = .int .i64 m ∧ wa.heap.size ≤ wr.heap.size ∧ Below w.heap.size w wr ∧ Blk wr wa.heap.size #[.int .i64 p.1, .int .i64 p.2] 109 ∧
          Blk wr w.heap.size #[.int .i64 0, .int .i64 0, .int .i64 0, .int .i64 0, .bool false, .bool false] 113 ∧
          Blk wr (w.heap.size + 1) #[.int .i64 (rowF (allTo l k) p (l.take m)).la, .int .i64 (rowF (allTo l k) p (l.take m)).lb, .int .i64 (rowF (allTo l k) p (l.take m)).ha, .int .i64 (rowF (allTo l k) p (l.take m)).hb, .bool (rowF (allTo l k) p (l.take m)).bd, .bool false] 113)
        (fun j _ => k - (intOf j).toNat)
      case atStart => exact ⟨0, Nat.zero_le _, rfl, by simp, hB.alloc hB.size _, Blk.new _ _ _, R.alloc _, S.alloc _⟩
      case round =>
        obtain ⟨m, hm, rfl, hBa, hBw, P, R', S'⟩ := hrel
        obtain ⟨k0, k1, k2, k3, k4, k5, kf, klt⟩ := S'.d6
        obtain ⟨p0, p1, pf, plt⟩ := P.d2
        have rlt := R'.lt
        by_cases hmk : m < k
        · obtain ⟨q, hq⟩ : ∃ q, l[m]? = some q := ⟨_, List.getElem?_eq_getElem (by omega)⟩
          have hqm := List.mem_of_getElem? hq
          have hne : p.1 ≠ q.1 := hi.ne HP.out hq (by omega)
          obtain ⟨c0, c1⟩ := HC.out m q hq
          have c0' := keep hBw c0 hb
          have c1' := keep hBw c1 hb
          clear c0 c1
          have htk := take_snoc' hq
          have hsn := rowF_snoc (s := allTo l k) (l := l.take m) (p := p) (a := q)
          rw [← htk] at hsn
          have HSN := Lib.hid hsn
          have HNE := Lib.hid hne
          clear hsn htk hq hne
          have hok := rowF_ok (l := l.take m) (allTo_ok hl k (by omega)) (fun a ha => hl a (List.mem_of_mem_take ha)) (hl p hpm)
          go_wp2_with fail
          refine (join_any _ p q _ hok (hl p hpm) (hl q hqm) HNE.out).mono ?_
          rintro e w1 ⟨rfl, hb1⟩
          clear k0 k1 k2 k3 k4 k5 kf klt p0 p1 pf plt c0' c1'
          have hb2 := binto (below_alloc wr _) hb1
          have S1 := S'.keep hb2 S'.lt
          have P1 := P.keep hb2 P.lt
          have R1 := R'.keep hb2 R'.lt
          have hsz := hb2.size
          have hsz' := hBw.size
          have hB1 := hBw.trans (hb2.mono hsz')
          obtain ⟨k0, k1, k2, k3, k4, k5, kf, klt⟩ := S1.d6
          go_wp2_with fail
          go_roundw
          case rel =>
            refine ⟨m + 1, by omega, by go_num, ?_, (by repeat (first | (with_reducible exact Below.refl _ _) | (with_reducible assumption) | ((with_reducible refine Below.setCell ?_ ?_ _); rotate_left; (focus (first | omega | (simp; done) | (simp; omega)))) | (with_reducible refine Below.drew ?_) | (with_reducible refine below_drewN ?_ _) | ((with_reducible refine Below.alloc ?_ ?_ _); rotate_left; (focus (first | omega | (simp; done) | (simp; omega)))))), P1.o6 (by omega), R1.o6 (by omega), ?_⟩
            · simp; omega
            · rw [HSN.out, joinF_bd]
              exact S1.s6
          case measure => simp [intOf]; omega
        · obtain rfl : m = k := by omega
          go_wp2_with fail
          go_roundw
          case rel => exact ⟨m + 1, by omega, by go_num, hBw, R', by rw [HS.out]; exact S'⟩
          case measure => simp [intOf]; omega
    · obtain rfl : k = l.length := by omega
      obtain ⟨r0, r1, r2, r3, r4, r5, rf, rlt⟩ := R.d6
      obtain ⟨k0, k1, k2, k3, k4, k5, kf, klt⟩ := S.d6
      go_wp2_with fail
      exact bodyPost_ret (v := .agg #[.int .i64 (allF l).la, .int .i64 (allF l).lb, .int .i64 (allF l).ha, .int .i64 (allF l).hb, .bool (allF l).bd, .bool false]) (by simp [results, Tryz.results71, go_sem, r0, r1, r2, r3, r4, r5, rf, allF]) rfl ⟨rfl, (by repeat (first | (with_reducible exact Below.refl _ _) | (with_reducible assumption) | ((with_reducible refine Below.setCell ?_ ?_ _); rotate_left; (focus (first | omega | (simp; done) | (simp; omega)))) | (with_reducible refine Below.drew ?_) | (with_reducible refine below_drewN ?_ _) | ((with_reducible refine Below.alloc ?_ ?_ _); rotate_left; (focus (first | omega | (simp; done) | (simp; omega))))))⟩

theorem drop_take_snoc {α : Type} {l : List α} {k m : Nat} {a : α} (h : l[m]? = some a) (hk : k ≤ m) : (l.drop k).take (m + 1 - k) = (l.drop k).take (m - k) ++ [a] := by
  have e : m + 1 - k = (m - k) + 1 := by omega
  rw [e]
  refine take_snoc' ?_
  rw [List.getElem?_drop]
  have : k + (m - k) = m := by omega
  rw [this]; exact h

set_option maxRecDepth 100000 in
set_option maxHeartbeats 4000000 in
theorem bounds_any (pv : Value) (l : List (Int × Int)) (w : World) (hl : ∀ a ∈ l, PtOk a) (hi : Incr l) (hR : PReads w pv l) :
    Calls Tryz.prog 82 #[pv] w
      fun e w' => e = .returned (.agg #[.int .i64 (bndF l).la, .int .i64 (bndF l).lb, .int .i64 (bndF l).ha, .int .i64 (bndF l).hb, .bool false]) ∧ Below w.heap.size w w' := by
  obtain ⟨a, cap, rfl, hlc, hcm, hR'⟩ := hR
  have hlm : l.length ≤ 9223372036854775807 := Nat.le_trans hlc hcm
  go_enter Tryz.func82, Tryz.ntmps82
  go_wp2_with fail
  generalize hW0 : World.alloc (World.alloc w _) _ = W0
  have R0 : Blk W0 w.heap.size #[.int .i64 0, .int .i64 0, .int .i64 0, .int .i64 0, .bool false] 123 := by rw [← hW0]; exact (Blk.new _ _ _).alloc _
  have S0 : Blk W0 (w.heap.size + 1) #[.int .i64 0, .int .i64 0, .int .i64 0, .int .i64 0, .bool false] 123 := by rw [← hW0]; exact Blk.newAt _ _ (by simp)
  have hB0 : Below w.heap.size w W0 := by rw [← hW0]; exact (by repeat (first | (with_reducible exact Below.refl _ _) | (with_reducible assumption) | ((with_reducible refine Below.setCell ?_ ?_ _); rotate_left; (focus (first | omega | (simp; done) | (simp; omega)))) | (with_reducible refine Below.drew ?_) | (with_reducible refine below_drewN ?_ _) | ((with_reducible refine Below.alloc ?_ ?_ _); rotate_left; (focus (first | omega | (simp; done) | (simp; omega))))))
  clear hW0
  go_loopw [4] (fun i wr => ∃ k : Nat, k ≤ l.length ∧ i = .int .i64 k ∧ Below w.heap.size w wr ∧
      Blk wr w.heap.size #[.int .i64 0, .int .i64 0, .int .i64 0, .int .i64 0, .bool false] 123 ∧
      Blk wr (w.heap.size + 1) #[.int .i64 (bndTo l k).la, .int .i64 (bndTo l k).lb, .int .i64 (bndTo l k).ha, .int .i64 (bndTo l k).hb, .bool false] 123)
    (fun i _ => l.length - (intOf i).toNat)
  case atStart => exact ⟨0, Nat.zero_le _, rfl, hB0, R0, S0⟩
  case round =>
    obtain ⟨k, hk, rfl, hB, R, S⟩ := hrel
    obtain ⟨wa, rfl⟩ : ∃ wo : World, wo = wr := ⟨_, rfl⟩
    by_cases hlt : k < l.length
    · obtain ⟨p, hp⟩ : ∃ p, l[k]? = some p := ⟨_, List.getElem?_eq_getElem hlt⟩
      have hpg : l.getD k (0, 0) = p := by simp [List.getD, hp]
      have hpm := List.mem_of_getElem? hp
      rcases hR' with hnil | ⟨b, off, rfl, hb, hc⟩
      · subst hnil; simp at hlt
      have hsucc : bndTo l (k + 1) = rowF (bndTo l k) p (l.drop (k + 1)) := by rw [bndTo, hpg]
      have hli0 : decide ((k : Int) < (l.length : Int)) = true := by simp; omega
      have HS := Lib.hid hsucc
      have HP := Lib.hid hp
      have HC := Lib.hid hc
      clear hsucc hp hpg hc
      go_wp2_with fail
      go_loopw [5] (fun j wr => ∃ m : Nat, k + 1 ≤ m ∧ m ≤ l.length ∧ j = .int .i64 m ∧ Below w.heap.size w wr ∧
          Blk wr w.heap.size #[.int .i64 0, .int .i64 0, .int .i64 0, .int .i64 0, .bool false] 123 ∧
          Blk wr (w.heap.size + 1) #[.int .i64 (rowF (bndTo l k) p ((l.drop (k + 1)).take (m - (k + 1)))).la, .int .i64 (rowF (bndTo l k) p ((l.drop (k + 1)).take (m - (k + 1)))).lb, .int .i64 (rowF (bndTo l k) p ((l.drop (k + 1)).take (m - (k + 1)))).ha, .int .i64 (rowF (bndTo l k) p ((l.drop (k + 1)).take (m - (k + 1)))).hb, .bool false] 123)
        (fun j _ => l.length - (intOf j).toNat)
      case atStart => exact ⟨k + 1, Nat.le_refl _, by omega, by go_num, hB, R, by simpa [rowF] using S⟩
      case round =>
        obtain ⟨m, hm0, hm, rfl, hBw, R', S'⟩ := hrel
        obtain ⟨k0, k1, k2, k3, k4, kf, klt⟩ := S'.d5
        have rlt := R'.lt
        by_cases hmk : m < l.length
        · obtain ⟨q, hq⟩ : ∃ q, l[m]? = some q := ⟨_, List.getElem?_eq_getElem (by omega)⟩
          have hqm := List.mem_of_getElem? hq
          have hne : p.1 ≠ q.1 := hi.ne HP.out hq (by omega)
          obtain ⟨c0, c1⟩ := HC.out m q hq
          have c0' := keep hBw c0 hb
          have c1' := keep hBw c1 hb
          obtain ⟨d0, d1⟩ := HC.out k p HP.out
          have d0' := keep hBw d0 hb
          have d1' := keep hBw d1 hb
          clear c0 c1 d0 d1
          have htk := drop_take_snoc (k := k + 1) hq hm0
          have hsn := rowF_snoc (s := bndTo l k) (l := (l.drop (k + 1)).take (m - (k + 1))) (p := p) (a := q)
          rw [← htk] at hsn
          have hli1 : decide ((m : Int) < (l.length : Int)) = true := by simp; omega
          have HSN := Lib.hid hsn
          have HNE := Lib.hid hne
          clear hsn htk hq hne
          have hmem : ∀ a ∈ (l.drop (k + 1)).take (m - (k + 1)), a ∈ l := fun a ha => List.mem_of_mem_drop (List.mem_of_mem_take ha)
          have hok := rowF_ok (l := (l.drop (k + 1)).take (m - (k + 1))) (bndTo_ok hl k (by omega)) (fun a ha => hl a (hmem a ha)) (hl p hpm)
          have hnz : (rowF (bndTo l k) p ((l.drop (k + 1)).take (m - (k + 1)))).Nz := rowF_nz (bndTo_nz hi k (by omega)) (fun a ha => by
            obtain ⟨j, hj⟩ := List.getElem?_of_mem (List.mem_of_mem_take ha)
            rw [List.getElem?_drop] at hj
            exact hi.ne HP.out hj (by omega))
          have HNZ := Lib.hid hnz
          have HMEM := Lib.hid hmem
          clear hmem hnz
          go_wp2_with fail
          go_still_tail 9, (by kernel_rfl)
          go_wp2_with fail
          refine (tighter_any _ p q _ hok HNZ.out (hl p hpm) (hl q hqm) HNE.out).mono ?_
          rintro e w1 ⟨rfl, hb1⟩
          clear k0 k1 k2 k3 k4 kf klt c0' c1' d0' d1'
          have hb2 : Below wr.heap.size wr w1 := (Below.refl _ _).drew.trans hb1
          have S1 := S'.keep hb2 S'.lt
          have R1 := R'.keep hb2 R'.lt
          have hsz' := hBw.size
          have hB1 := hBw.trans (hb2.mono hsz')
          obtain ⟨k0, k1, k2, k3, k4, kf, klt⟩ := S1.d5
          go_wp2_with fail
          go_roundw
          case rel =>
            refine ⟨m + 1, by omega, by omega, by go_num, (by repeat (first | (with_reducible exact Below.refl _ _) | (with_reducible assumption) | ((with_reducible refine Below.setCell ?_ ?_ _); rotate_left; (focus (first | omega | (simp; done) | (simp; omega)))) | (with_reducible refine Below.drew ?_) | (with_reducible refine below_drewN ?_ _) | ((with_reducible refine Below.alloc ?_ ?_ _); rotate_left; (focus (first | omega | (simp; done) | (simp; omega)))))), R1.o5 (by omega), ?_⟩
            rw [HSN.out]
            exact S1.s5
          case measure => simp [intOf]; omega
        · obtain rfl : m = l.length := by omega
          go_wp2_with fail
          go_roundw
          case rel =>
            refine ⟨k + 1, by omega, by go_num, hBw, R', ?_⟩
            rw [HS.out]
            have e : (l.drop (k + 1)).take (l.length - (k + 1)) = l.drop (k + 1) := by rw [List.take_of_length_le]; simp
            rw [e] at S'
            exact S'
          case measure => simp [intOf]; omega
    · obtain rfl : k = l.length := by omega
      obtain ⟨r0, r1, r2, r3, r4, rf, rlt⟩ := R.d5
      obtain ⟨k0, k1, k2, k3, k4, kf, klt⟩ := S.d5
      go_wp2_with fail
      exact bodyPost_ret (v := .agg #[.int .i64 (bndF l).la, .int .i64 (bndF l).lb, .int .i64 (bndF l).ha, .int .i64 (bndF l).hb, .bool false]) (by simp [results, Tryz.results82, go_sem, r0, r1, r2, r3, r4, rf, bndF]) rfl ⟨rfl, (by repeat (first | (with_reducible exact Below.refl _ _) | (with_reducible assumption) | ((with_reducible refine Below.setCell ?_ ?_ _); rotate_left; (focus (first | omega | (simp; done) | (simp; omega)))) | (with_reducible refine Below.drew ?_) | (with_reducible refine below_drewN ?_ _) | ((with_reducible refine Below.alloc ?_ ?_ _); rotate_left; (focus (first | omega | (simp; done) | (simp; omega))))))⟩

end Go.Proofs.YtnfgedbcfclnmaaGreat
