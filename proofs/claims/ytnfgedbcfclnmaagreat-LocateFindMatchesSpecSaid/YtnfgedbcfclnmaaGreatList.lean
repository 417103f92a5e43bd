/- Lists of numbers: the first element with a property, valid lists, valid rows. -/
import Derived.Test.YtnfgedbcfclnmaaGreatInts
import Derived.Test.YtnfgedbcfclnmaaGreatPRows
set_option linter.unusedVariables false
set_option linter.unusedSimpArgs false
namespace Go.Proofs.YtnfgedbcfclnmaaGreat
open Go.RowKit

/-- The place of the first element with a property, or -1. -/
def idxP (p : Int → Bool) (l : List Int) (r : Int) : Prop :=
  (r = -1 ∧ ∀ j, j < l.length → p (l.getD j 0) = false) ∨ ∃ j : Nat, r = j ∧ j < l.length ∧ p (l.getD j 0) = true ∧ ∀ i, i < j → p (l.getD i 0) = false

theorem idxP.range {p : Int → Bool} {l : List Int} {r : Int} (h : idxP p l r) : -1 ≤ r ∧ r < l.length + 1 := by
  rcases h with ⟨h1, -⟩ | ⟨j, h1, h2, -⟩ <;> omega
theorem idxP.any {p : Int → Bool} {l : List Int} {r : Int} (h : idxP p l r) : decide (0 ≤ r) = l.any p := by
  rcases h with ⟨h1, h2⟩ | ⟨j, h1, h2, h3, -⟩
  · subst h1
    have : l.any p = false := by
      rw [List.any_eq_false]
      intro x hx
      obtain ⟨i, hi, rfl⟩ := List.getElem_of_mem hx
      have := h2 i hi
      simpa [List.getD, hi] using this
    rw [this]; rfl
  · have : l.any p = true := by
      rw [List.any_eq_true]
      exact ⟨l.getD j 0, List.mem_of_getElem? (getD_some h2), h3⟩
    rw [this]; simp; omega

theorem notUnknown_any (t : Int) (w : World) : Calls Tryz.prog 46 #[.int .i64 t] w fun e w' => e = .returned (.bool (t != -1)) ∧ w = w' := by
  go_enter Tryz.func46, Tryz.ntmps46
  go_wp2
  go_ret
  exact ⟨rfl, rfl⟩

def badN (t : Int) : Bool := decide (t < -1) || decide (640 < t)
theorem badNumber_any (t : Int) (w : World) : Calls Tryz.prog 74 #[.int .i64 t] w fun e w' => e = .returned (.bool (badN t)) ∧ w = w' := by
  go_enter Tryz.func74, Tryz.ntmps74
  go_wp2
  all_goals
    go_ret
    refine ⟨ret_bool ?_, rfl⟩
    first | (simp [badN, *]; done) | (simp [badN, *]; omega)

def nunk (t : Int) : Bool := t != -1
set_option maxRecDepth 100000 in
set_option maxHeartbeats 800000 in
theorem indexU_any (v : Value) (l : List Int) (w : World) (hv : Reads (Value.int .i64) w v l) :
    Calls Tryz.prog 45 #[v, .func (.func 46) #[] #[]] w (RetEx (idxP nunk l) (Value.int .i64) w) := by
  obtain ⟨a, cap, rfl, h1, h2, h3⟩ := hv
  have hlm : l.length ≤ 9223372036854775807 := Nat.le_trans h1 (Nat.le_trans h2 (by decide))
  have H3 := Lib.hid h3
  clear h3
  go_enter Tryz.func45, Tryz.ntmps45
  go_wp2_with fail
  go_loopw [5, 8] (fun _ n wr => ∃ j : Nat, n = .int .i64 j ∧ j ≤ l.length ∧ wr = w ∧ Hid (∀ i, i < j → nunk (l.getD i 0) = false)) (fun _ n _ => l.length - (intOf n).toNat)
  case atStart => exact ⟨0, rfl, by omega, rfl, fun i hi => by omega⟩
  case round =>
    obtain ⟨j, rfl, hj, rfl, hno⟩ := hrel
    obtain ⟨wa, rfl⟩ : ∃ wo : World, wo = wr := ⟨_, rfl⟩
    by_cases hlt : j < l.length
    · obtain ⟨b, off, rfl, hb, hc⟩ : ∃ b off, a = some ⟨b, off, none⟩ ∧ b < wa.heap.size ∧ ∀ i x, l[i]? = some x → wa.cell? ⟨b, off + i, none⟩ = some (.int .i64 x) := by
        rcases H3.out with g | g
        · subst g; simp at hlt
        · exact g
      obtain ⟨x, hx⟩ : ∃ x, x = l.getD j 0 := ⟨_, rfl⟩
      have c1 := hc j _ (getD_some (d := 0) hlt)
      rw [← hx] at c1
      have hd : decide ((j : Int) < (l.length : Int)) = true := by simp; omega
      have HX := Lib.hid hx
      have HF := fun w => notUnknown_any x w
      clear hx hc
      cases hp : nunk x with
      | true =>
        rw [show (x != -1) = nunk x from rfl, hp] at HF
        have HF := Lib.hid HF
        have HP := Lib.hid hp
        clear hp
        go_wp2_with (go_at_call 46; refine (HF.out _).mono ?_; rintro e w1 ⟨rfl, rfl⟩)
        go_ret
        exact ⟨j, .inr ⟨j, rfl, hlt, HX.out ▸ HP.out, hno.out⟩, rfl, Below.refl _ _⟩
      | false =>
        rw [show (x != -1) = nunk x from rfl, hp] at HF
        have HF := Lib.hid HF
        have hno' : ∀ i, i < j + 1 → nunk (l.getD i 0) = false := fun i hi => by
          rcases Nat.lt_or_eq_of_le (Nat.le_of_lt_succ hi) with g | rfl
          · exact hno.out i g
          · exact HX.out ▸ hp
        have HNO := Lib.hid hno'
        clear hp hno'
        go_wp2_with (go_at_call 46; refine (HF.out _).mono ?_; rintro e w1 ⟨rfl, rfl⟩)
        go_roundw
        case rel => exact ⟨j + 1, by go_num, by omega, trivial, HNO⟩
        case measure => simp [intOf]; omega
    · obtain rfl : j = l.length := by omega
      go_wp2_with fail
      go_ret
      exact ⟨-1, .inl ⟨rfl, hno.out⟩, rfl, Below.refl _ _⟩

set_option maxRecDepth 100000 in
set_option maxHeartbeats 800000 in
theorem indexB_any (v : Value) (l : List Int) (w : World) (hv : Reads (Value.int .i64) w v l) :
    Calls Tryz.prog 45 #[v, .func (.func 74) #[] #[]] w (RetEx (idxP badN l) (Value.int .i64) w) := by
  obtain ⟨a, cap, rfl, h1, h2, h3⟩ := hv
  have hlm : l.length ≤ 9223372036854775807 := Nat.le_trans h1 (Nat.le_trans h2 (by decide))
  have H3 := Lib.hid h3
  clear h3
  go_enter Tryz.func45, Tryz.ntmps45
  go_wp2_with fail
  go_loopw [5, 8] (fun _ n wr => ∃ j : Nat, n = .int .i64 j ∧ j ≤ l.length ∧ wr = w ∧ Hid (∀ i, i < j → badN (l.getD i 0) = false)) (fun _ n _ => l.length - (intOf n).toNat)
  case atStart => exact ⟨0, rfl, by omega, rfl, fun i hi => by omega⟩
  case round =>
    obtain ⟨j, rfl, hj, rfl, hno⟩ := hrel
    obtain ⟨wa, rfl⟩ : ∃ wo : World, wo = wr := ⟨_, rfl⟩
    by_cases hlt : j < l.length
    · obtain ⟨b, off, rfl, hb, hc⟩ : ∃ b off, a = some ⟨b, off, none⟩ ∧ b < wa.heap.size ∧ ∀ i x, l[i]? = some x → wa.cell? ⟨b, off + i, none⟩ = some (.int .i64 x) := by
        rcases H3.out with g | g
        · subst g; simp at hlt
        · exact g
      obtain ⟨x, hx⟩ : ∃ x, x = l.getD j 0 := ⟨_, rfl⟩
      have c1 := hc j _ (getD_some (d := 0) hlt)
      rw [← hx] at c1
      have hd : decide ((j : Int) < (l.length : Int)) = true := by simp; omega
      have HX := Lib.hid hx
      have HF := fun w => badNumber_any x w
      clear hx hc
      cases hp : badN x with
      | true =>
        rw [hp] at HF
        have HF := Lib.hid HF
        have HP := Lib.hid hp
        clear hp
        go_wp2_with (go_at_call 74; refine (HF.out _).mono ?_; rintro e w1 ⟨rfl, rfl⟩)
        go_ret
        exact ⟨j, .inr ⟨j, rfl, hlt, HX.out ▸ HP.out, hno.out⟩, rfl, Below.refl _ _⟩
      | false =>
        rw [hp] at HF
        have HF := Lib.hid HF
        have hno' : ∀ i, i < j + 1 → badN (l.getD i 0) = false := fun i hi => by
          rcases Nat.lt_or_eq_of_le (Nat.le_of_lt_succ hi) with g | rfl
          · exact hno.out i g
          · exact HX.out ▸ hp
        have HNO := Lib.hid hno'
        clear hp hno'
        go_wp2_with (go_at_call 74; refine (HF.out _).mono ?_; rintro e w1 ⟨rfl, rfl⟩)
        go_roundw
        case rel => exact ⟨j + 1, by go_num, by omega, trivial, HNO⟩
        case measure => simp [intOf]; omega
    · obtain rfl : j = l.length := by omega
      go_wp2_with fail
      go_ret
      exact ⟨-1, .inl ⟨rfl, hno.out⟩, rfl, Below.refl _ _⟩

theorem containsB_any (v : Value) (l : List Int) (w : World) (hv : Reads (Value.int .i64) w v l) :
    Calls Tryz.prog 73 #[v, .func (.func 74) #[] #[]] w fun e w' => e = .returned (.bool (l.any badN)) ∧ Below w.heap.size w w' := by
  have HI := Lib.hid (indexB_any v l w hv)
  obtain ⟨a, cap, rfl, -⟩ := hv
  go_enter Tryz.func73, Tryz.ntmps73
  go_wp2_with fail
  refine HI.out.mono ?_
  rintro e w1 ⟨r, hr, rfl, hb⟩
  have ha := hr.any
  have HA := Lib.hid ha
  clear hr ha
  go_wp2_with fail
  go_ret
  exact ⟨ret_bool HA.out, hb⟩

def listOk (l : List Int) : Bool := !(l.any badN)
theorem validList_any (v : Value) (l : List Int) (w : World) (hv : Reads (Value.int .i64) w v l) :
    Calls Tryz.prog 42 #[v] w fun e w' => e = .returned (.bool (listOk l)) ∧ Below w.heap.size w w' := by
  have HI := Lib.hid (containsB_any v l w hv)
  obtain ⟨a, cap, rfl, -⟩ := hv
  go_enter Tryz.func42, Tryz.ntmps42
  go_wp2_with fail
  refine HI.out.mono ?_
  rintro e w1 ⟨rfl, hb⟩
  go_wp2_with fail
  go_ret
  exact ⟨rfl, hb⟩

set_option maxRecDepth 100000 in
set_option maxHeartbeats 800000 in
theorem indexE_any (x : Int) (v : Value) (l : List Int) (w : World) (hv : Reads (Value.int .i64) w v l) :
    Calls Tryz.prog 95 #[v, .int .i64 x] w (RetEx (idxP (fun t => x == t) l) (Value.int .i64) w) := by
  obtain ⟨a, cap, rfl, h1, h2, h3⟩ := hv
  have hlm : l.length ≤ 9223372036854775807 := Nat.le_trans h1 (Nat.le_trans h2 (by decide))
  have H3 := Lib.hid h3
  clear h3
  go_enter Tryz.func95, Tryz.ntmps95
  go_wp2_with fail
  go_loopw [5, 8] (fun _ n wr => ∃ j : Nat, n = .int .i64 j ∧ j ≤ l.length ∧ wr = w ∧ Hid (∀ i, i < j → (x == l.getD i 0) = false)) (fun _ n _ => l.length - (intOf n).toNat)
  case atStart => exact ⟨0, rfl, by omega, rfl, fun i hi => by omega⟩
  case round =>
    obtain ⟨j, rfl, hj, rfl, hno⟩ := hrel
    obtain ⟨wa, rfl⟩ : ∃ wo : World, wo = wr := ⟨_, rfl⟩
    by_cases hlt : j < l.length
    · obtain ⟨b, off, rfl, hb, hc⟩ : ∃ b off, a = some ⟨b, off, none⟩ ∧ b < wa.heap.size ∧ ∀ i x, l[i]? = some x → wa.cell? ⟨b, off + i, none⟩ = some (.int .i64 x) := by
        rcases H3.out with g | g
        · subst g; simp at hlt
        · exact g
      obtain ⟨y, hy⟩ : ∃ y, y = l.getD j 0 := ⟨_, rfl⟩
      have c1 := hc j _ (getD_some (d := 0) hlt)
      rw [← hy] at c1
      have hd : decide ((j : Int) < (l.length : Int)) = true := by simp; omega
      have HY := Lib.hid hy
      clear hy hc
      by_cases hp : x = y
      · have HP := Lib.hid hp
        subst hp
        go_wp2_with fail
        go_ret
        exact ⟨j, .inr ⟨j, rfl, hlt, by show (x == l.getD j 0) = true; rw [← HY.out]; simp, hno.out⟩, rfl, Below.refl _ _⟩
      · have hq : (x == y) = false := by simpa using hp
        have hno' : ∀ i, i < j + 1 → (x == l.getD i 0) = false := fun i hi => by
          rcases Nat.lt_or_eq_of_le (Nat.le_of_lt_succ hi) with g | rfl
          · exact hno.out i g
          · rw [← HY.out]; exact hq
        have HNO := Lib.hid hno'
        clear hp hno'
        go_wp2_with fail
        go_roundw
        case rel => exact ⟨j + 1, by go_num, by omega, trivial, HNO⟩
        case measure => simp [intOf]; omega
    · obtain rfl : j = l.length := by omega
      go_wp2_with fail
      go_ret
      exact ⟨-1, .inl ⟨rfl, hno.out⟩, rfl, Below.refl _ _⟩

theorem containsE_any (x : Int) (v : Value) (l : List Int) (w : World) (hv : Reads (Value.int .i64) w v l) :
    Calls Tryz.prog 75 #[v, .int .i64 x] w fun e w' => e = .returned (.bool (l.any fun t => x == t)) ∧ Below w.heap.size w w' := by
  have HI := Lib.hid (indexE_any x v l w hv)
  obtain ⟨a, cap, rfl, -⟩ := hv
  go_enter Tryz.func75, Tryz.ntmps75
  go_wp2_with fail
  refine HI.out.mono ?_
  rintro e w1 ⟨r, hr, rfl, hb⟩
  have ha := hr.any
  have HA := Lib.hid ha
  clear hr ha
  go_wp2_with fail
  go_ret
  exact ⟨ret_bool HA.out, hb⟩

def rowsB (R : Int) : Bool := R == 53 || R == 85
theorem validRows_any (R : Int) (w : World) : Calls Tryz.prog 44 #[.int .i64 R] w fun e w' => e = .returned (.bool (rowsB R)) ∧ Below w.heap.size w w' := by
  go_enter Tryz.func44, Tryz.ntmps44
  go_wp2_with fail
  refine (pageRows_any w).mono ?_
  rintro e w1 ⟨v, rfl, hown, hb⟩
  have hr := own_reads (f := Value.int .i64) (l := [53, 85]) hown
  have HC := Lib.hid (containsE_any R v [53, 85] w1 hr)
  obtain ⟨a, cap, rfl, -⟩ := hr
  clear hown
  dsimp only
  go_wp2_with fail
  refine HC.out.mono ?_
  rintro e w2 ⟨rfl, hb2⟩
  go_wp2_with fail
  go_ret
  exact ⟨ret_bool (by simp [rowsB]), binto hb hb2⟩

end Go.Proofs.YtnfgedbcfclnmaaGreat
