/- The left edge of a row of pixels: the first place that is not dark, behind dark ones. -/
import Derived.Test.YtnfgedbcfclnmaaGreatThere
import Derived.Test.YtnfgedbcfclnmaaGreatFillF
set_option linter.unusedVariables false
set_option linter.unusedSimpArgs false
namespace Go.Proofs.YtnfgedbcfclnmaaGreat
open Go.RowKit

/-- t n: the n-th pixel from the start exists; d n: it is dark. -/
def EdgeIs (t d : Nat → Bool) (N : Nat) (base v : Int) : Prop :=
  ∃ n, n ≤ N + 1 ∧ (∀ m, m < n → t m = true ∧ d m = true) ∧ (n ≤ N → (t n && d n) = false) ∧ v = if 0 < n ∧ n ≤ N ∧ t n = true then base + n else -1
theorem EdgeIs.unique {t d : Nat → Bool} {N : Nat} {base v u : Int} (h : EdgeIs t d N base v) (k : EdgeIs t d N base u) : v = u := by
  obtain ⟨n, h1, h2, h3, rfl⟩ := h
  obtain ⟨m, k1, k2, k3, rfl⟩ := k
  have e : n = m := by
    rcases Nat.lt_trichotomy n m with g | g | g
    · have a := k2 n g; have b := h3 (by omega); simp [a.1, a.2] at b
    · exact g
    · have a := h2 m g; have b := k3 (by omega); simp [a.1, a.2] at b
  rw [e]

def tAt (W H : Int) (l : List Int) (from' k : Int) (n : Nat) : Bool := thereB W H l (from' + n) k
def dAt (W H : Int) (px l : List Int) (from' k : Int) (n : Nat) : Bool := decide (pixF W H px (from' + n) (l.getD (from' + n).toNat 0 + k) < 128)

/-- The first known top, or the length. -/
def FirstTop (l : List Int) (f : Nat) : Prop := f ≤ l.length ∧ (∀ j, j < f → l.getD j 0 < 0) ∧ (f < l.length → 0 ≤ l.getD f 0)
theorem FirstTop.unique {l : List Int} {f g : Nat} (h : FirstTop l f) (k : FirstTop l g) : f = g := by
  rcases Nat.lt_trichotomy f g with a | a | a
  · have b := k.2.1 f a; have c := h.2.2 (by have := k.1; omega); omega
  · exact a
  · have b := h.2.1 g a; have c := k.2.2 (by have := h.1; omega); omega

/-- The edges of all rows, before they are completed. -/
def EdgesAre (W H : Int) (px l : List Int) (s R : Int) (out : List Int) : Prop :=
  (out.length : Int) = R * s ∧ ∃ f, FirstTop l f ∧ ∀ k : Nat, k < out.length → EdgeIs (tAt W H l (f + s) k) (dAt W H px l (f + s) k) (4 * s).toNat (f + s) (out.getD k 0)
theorem EdgesAre.unique {W H : Int} {px l : List Int} {s R : Int} {o p : List Int} (h : EdgesAre W H px l s R o) (k : EdgesAre W H px l s R p) : o = p := by
  obtain ⟨h1, f, hf, h2⟩ := h
  obtain ⟨k1, g, kg, k2⟩ := k
  obtain rfl := hf.unique kg
  have hl : o.length = p.length := by omega
  apply List.ext_getElem hl
  intro i a b
  have := (h2 i a).unique (k2 i b)
  simpa [List.getD, a, b] using this

theorem EdgeIs.bound {W H : Int} {l : List Int} {px : List Int} {N : Nat} {base k v : Int} (h : EdgeIs (tAt W H l base k) (dAt W H px l base k) N base v) (hW : W ≤ 640) : -1 ≤ v ∧ v ≤ 640 := by
  obtain ⟨n, h1, h2, h3, rfl⟩ := h
  split
  · rename_i g
    have := g.2.2
    simp only [tAt, thereB, inB, Bool.and_eq_true, decide_eq_true_eq] at this
    omega
  · omega
theorem EdgesAre.ok {W H : Int} {px l : List Int} {s R : Int} {o : List Int} (h : EdgesAre W H px l s R o) (hW : W ≤ 640) (hR : R * s ≤ 510) : ValsOk o := by
  obtain ⟨h1, f, hf, h2⟩ := h
  have hall : ∀ v ∈ o, -1 ≤ v ∧ v ≤ 640 := fun v hv => by
    obtain ⟨i, hi, rfl⟩ := List.getElem_of_mem hv
    have := (h2 i hi).bound hW
    simpa [List.getD, hi] using this
  exact ⟨by omega, fun v hv => by have := hall v hv; omega, fun v hv => by have := hall v hv; omega⟩

end Go.Proofs.YtnfgedbcfclnmaaGreat
