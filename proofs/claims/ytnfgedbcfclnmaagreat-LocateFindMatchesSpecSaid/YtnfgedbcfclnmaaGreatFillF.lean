/- Completing a list of values: what both programs compute, in plain words. -/
import Derived.Test.YtnfgedbcfclnmaaGreatSpan
import Derived.Test.YtnfgedbcfclnmaaGreatKit3
set_option linter.unusedVariables false
set_option linter.unusedSimpArgs false
namespace Go.Proofs.YtnfgedbcfclnmaaGreat
open Go.RowKit

/-- The known values among the first k, as points. -/
def ptsTo (vals : List Int) : Nat → List (Int × Int)
  | 0 => []
  | k + 1 => if 0 ≤ vals.getD k 0 then ptsTo vals k ++ [((k : Int), vals.getD k 0)] else ptsTo vals k

theorem ptsTo_mem {vals : List Int} : ∀ {k : Nat} {a : Int × Int}, a ∈ ptsTo vals k → ∃ i : Nat, i < k ∧ 0 ≤ vals.getD i 0 ∧ a = ((i : Int), vals.getD i 0)
  | 0, a, h => by simp [ptsTo] at h
  | k + 1, a, h => by
    rw [ptsTo] at h
    split at h
    · rename_i hv
      rcases List.mem_append.1 h with h | h
      · obtain ⟨i, h1, h2⟩ := ptsTo_mem h; exact ⟨i, by omega, h2⟩
      · exact ⟨k, by omega, hv, by simpa using h⟩
    · obtain ⟨i, h1, h2⟩ := ptsTo_mem h; exact ⟨i, by omega, h2⟩

theorem ptsTo_len {vals : List Int} : ∀ {k : Nat}, (ptsTo vals k).length ≤ k
  | 0 => Nat.le_refl _
  | k + 1 => by
    have := ptsTo_len (vals := vals) (k := k)
    rw [ptsTo]; split
    · simp; omega
    · omega

theorem incr_snoc {l : List (Int × Int)} {a : Int × Int} (h : Incr l) (ha : ∀ b ∈ l, b.1 < a.1) : Incr (l ++ [a]) := by
  intro i j p q hi hj hlt
  have hjl := (List.getElem?_eq_some_iff.1 hj).1
  simp at hjl
  have hil : i < l.length := by omega
  rw [List.getElem?_append_left hil] at hi
  by_cases hj' : j < l.length
  · rw [List.getElem?_append_left hj'] at hj
    exact h i j p q hi hj hlt
  · obtain rfl : j = l.length := by omega
    simp at hj; subst hj
    exact ha p (List.mem_of_getElem? hi)

theorem ptsTo_incr {vals : List Int} : ∀ k, Incr (ptsTo vals k)
  | 0 => fun i j p q hi _ _ => by simp [ptsTo] at hi
  | k + 1 => by
    rw [ptsTo]; split
    · exact incr_snoc (ptsTo_incr k) (fun b hb => by obtain ⟨i, h1, -, rfl⟩ := ptsTo_mem hb; dsimp only; omega)
    · exact ptsTo_incr k

theorem ptsTo_small {vals : List Int} (hv : ∀ v ∈ vals, v ≤ 9999) (hl : vals.length ≤ 700) {k : Nat} (hk : k ≤ vals.length) : ∀ a ∈ ptsTo vals k, PtS a := fun a ha => by
  obtain ⟨i, h1, h2, rfl⟩ := ptsTo_mem ha
  have := hv _ (List.mem_of_getElem? (getD_some (d := 0) (by omega : i < vals.length)))
  exact ⟨by dsimp only; omega, by dsimp only; omega, by dsimp only; omega, by dsimp only; omega⟩

theorem ptsTo_ne {vals : List Int} {k i : Nat} (hi : vals.getD i 0 < 0) : ∀ a ∈ ptsTo vals k, a.1 ≠ (i : Int) := fun a ha he => by
  obtain ⟨j, h1, h2, rfl⟩ := ptsTo_mem ha
  dsimp only at he
  obtain rfl : j = i := by omega
  omega

/-- The only possible value at x, if there is one. -/
def OnlyV (l : List (Int × Int)) (x v : Int) : Prop := 0 ≤ v ∧ Cons (listC l) ∧ (∃ c, listC l c) ∧ PossV l x v ∧ ∀ u, PossV l x u → u = v
open Classical in
noncomputable def fillAt (l : List (Int × Int)) (x : Int) : Int := if h : ∃ v, OnlyV l x v then h.choose else -1

theorem fillAt_only {l : List (Int × Int)} {x v : Int} (h : OnlyV l x v) : fillAt l x = v := by
  have hex : ∃ v, OnlyV l x v := ⟨v, h⟩
  unfold fillAt
  rw [dif_pos hex]
  exact h.2.2.2.2 _ hex.choose_spec.2.2.2.1
theorem fillAt_none {l : List (Int × Int)} {x : Int} (h : ∀ v, ¬ OnlyV l x v) : fillAt l x = -1 := by
  unfold fillAt
  rw [dif_neg (fun ⟨v, hv⟩ => h v hv)]
theorem fillAt_ge {l : List (Int × Int)} {x : Int} : -1 ≤ fillAt l x := by
  unfold fillAt; split
  · rename_i h; have := h.choose_spec.1; omega
  · omega

/-- What span gives is what is filled in. -/
theorem fillAt_span {l : List (Int × Int)} {x : Int} {r : Int × Int × Bool} (h : SpanP l x r) :
    (r.2.2 = true ∧ r.1 = r.2.1 ∧ 0 ≤ r.1 → fillAt l x = r.1) ∧ (¬ (r.2.2 = true ∧ r.1 = r.2.1 ∧ 0 ≤ r.1) → fillAt l x = -1) := by
  obtain ⟨lo, hi, ok⟩ := r
  rcases h with ⟨he, hn⟩ | ⟨h1, h2, h3, h4, h5, h6⟩
  · cases he
    refine ⟨(fun h => by cases h.1), fun _ => fillAt_none fun v hv => ?_⟩
    rcases hn with hn | hn
    · exact hn hv.2.1
    · obtain ⟨c, hc⟩ := hv.2.2.1; exact hn c hc
  · dsimp only at *
    constructor
    · rintro ⟨-, rfl, h0⟩
      exact fillAt_only ⟨h0, h2, h3, h4, fun u hu => by have := h6 u hu; omega⟩
    · intro hn
      refine fillAt_none fun v hv => hn ⟨h1, ?_, ?_⟩
      · rw [hv.2.2.2.2 _ h4, hv.2.2.2.2 _ h5]
      · rw [hv.2.2.2.2 _ h4]; exact hv.1

/-- The completed list. -/
noncomputable def fillV (vals : List Int) (i : Nat) : Int := if 0 ≤ vals.getD i 0 then vals.getD i 0 else fillAt (ptsTo vals vals.length) i
noncomputable def fillF (vals : List Int) : List Int := (List.range vals.length).map (fillV vals)
theorem fillF_len (vals : List Int) : (fillF vals).length = vals.length := by simp [fillF]
noncomputable def fillTo (vals : List Int) (k : Nat) : List Int := (List.range k).map (fillV vals)
theorem fillTo_succ (vals : List Int) (k : Nat) : fillTo vals (k + 1) = fillTo vals k ++ [fillV vals k] := by
  simp [fillTo, List.range_succ]

theorem ptCells_snoc {l : List (Int × Int)} {p : Int × Int} : ptCells (l ++ [p]) = ptCells l ++ [.int .i64 p.1, .int .i64 p.2] := by simp [ptCells]

theorem Tryz.infoPoint : (Tryz.prog.info? 109).map (fun i => (i.zero, i.size, i.bytes)) = some (some (.agg #[.int .i64 0, .int .i64 0]), 2, 16) := by kernel_rfl
theorem Tryz.infoInt : (Tryz.prog.info? 3).map (fun i => (i.zero, i.size, i.bytes)) = some (some (.int .i64 0), 1, 8) := by kernel_rfl

/-- Values that may be completed. -/
structure ValsOk (vals : List Int) : Prop where
  len : vals.length ≤ 700
  hi : ∀ v ∈ vals, v ≤ 9999
  lo : ∀ v ∈ vals, -9223372036854775808 ≤ v

end Go.Proofs.YtnfgedbcfclnmaaGreat
