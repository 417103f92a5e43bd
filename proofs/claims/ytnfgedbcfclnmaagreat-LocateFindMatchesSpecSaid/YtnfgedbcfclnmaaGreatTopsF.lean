/- The search of TopsOf, and lists of four numbers an element. -/
import Derived.Test.YtnfgedbcfclnmaaGreatCols
import Derived.Test.YtnfgedbcfclnmaaGreatKit3
set_option linter.unusedVariables false
set_option linter.unusedSimpArgs false
namespace Go.Proofs.YtnfgedbcfclnmaaGreat
open Go.RowKit

def DT (h0 s0 R s : Int) : Prop := R * s < h0 ∨ (R * s = h0 ∧ s < s0)
def BestT (rs : List (Int × Int × Int × Int)) (D : Int → Int → Prop) (n s R : Int) : Prop :=
  (∀ R' s', Cand R' s' → D R' s' → (cntF rs R' s' : Int) ≤ n) ∧ ((n = 0 ∧ s = 0 ∧ R = 0) ∨ (Cand R s ∧ n = cntF rs R s ∧ 0 < n ∧ ∀ R' s', Cand R' s' → R' * s' < R * s → (cntF rs R' s' : Int) < n))

theorem BestT.start {rs : List (Int × Int × Int × Int)} : BestT rs (DT 159 3) 0 0 0 :=
  ⟨fun R' s' hc hd => by obtain ⟨h1 | h1, h2, h3⟩ := hc <;> subst h1 <;> rcases hd with g | ⟨g, k⟩ <;> omega, .inl ⟨rfl, rfl, rfl⟩⟩
theorem BestT.range {rs : List (Int × Int × Int × Int)} {D : Int → Int → Prop} {n s R : Int} (h : BestT rs D n s R) (hl : rs.length ≤ 640) : 0 ≤ n ∧ n ≤ 640 ∧ 0 ≤ s ∧ s ≤ 6 ∧ 0 ≤ R ∧ R ≤ 85 := by
  rcases h.2 with ⟨h1, h2, h3⟩ | ⟨⟨h1, h2, h3⟩, h4, -⟩
  · omega
  · have : cntF rs R s ≤ rs.length := List.countP_le_length
    omega
theorem BestT.skip {rs : List (Int × Int × Int × Int)} {h s1 n s R : Int} (hb : BestT rs (DT h s1) n s R) (h1 : h ≠ 85 * s1) (h2 : h ≠ 53 * s1) : BestT rs (DT h (s1 + 1)) n s R :=
  ⟨fun R' s' hc hd => hb.1 R' s' hc (by
    rcases hd with g | ⟨g, k⟩
    · exact .inl g
    · refine .inr ⟨g, ?_⟩
      have : s' ≠ s1 := fun e => by subst e; obtain ⟨c | c, -, -⟩ := hc <;> subst c <;> omega
      omega), hb.2⟩
theorem BestT.leave {rs : List (Int × Int × Int × Int)} {h s1 n s R R1 : Int} (hb : BestT rs (DT h s1) n s R) (hR : h = R1 * s1) (hs : 1 ≤ s1) (hc : (cntF rs R1 s1 : Int) ≤ n) : BestT rs (DT h (s1 + 1)) n s R :=
  ⟨fun R' s' hc' hd => by
    by_cases hd1 : DT h s1 R' s'
    · exact hb.1 R' s' hc' hd1
    · have e1 : s' = s1 ∧ R' * s' = h := by simp only [DT] at hd hd1; omega
      obtain ⟨rfl, e2⟩ := e1
      have : R' = R1 := by
        have : R' * s' = R1 * s' := by omega
        exact Int.eq_of_mul_eq_mul_right (by omega) this
      subst this
      exact hc, hb.2⟩
theorem BestT.take {rs : List (Int × Int × Int × Int)} {h s1 n s R R1 : Int} (hb : BestT rs (DT h s1) n s R) (hcand : Cand R1 s1) (hR : h = R1 * s1) (hn : 0 ≤ n) (hc : n < (cntF rs R1 s1 : Int)) : BestT rs (DT h (s1 + 1)) (cntF rs R1 s1) s1 R1 := by
  refine ⟨fun R' s' hc' hd => ?_, .inr ⟨hcand, rfl, by omega, fun R' s' hc' hlt => ?_⟩⟩
  · by_cases hd1 : DT h s1 R' s'
    · have := hb.1 R' s' hc' hd1; omega
    · have e1 : s' = s1 ∧ R' * s' = h := by simp only [DT] at hd hd1; omega
      obtain ⟨rfl, e2⟩ := e1
      have : R' = R1 := by
        have : R' * s' = R1 * s' := by omega
        have hs := hcand.2.1
        exact Int.eq_of_mul_eq_mul_right (by omega) this
      subst this
      exact Int.le_refl _
  · have := hb.1 R' s' hc' (.inl (by omega)); omega
theorem BestT.next {rs : List (Int × Int × Int × Int)} {h s1 n s R : Int} (hb : BestT rs (DT h s1) n s R) (hs : 7 ≤ s1) : BestT rs (DT (h + 1) 3) n s R :=
  ⟨fun R' s' hc hd => hb.1 R' s' hc (by
    have := hc.2
    rcases hd with g | ⟨g, k⟩
    · rcases Int.lt_or_le (R' * s') h with g2 | g2
      · exact .inl g2
      · exact .inr ⟨by omega, by omega⟩
    · omega), hb.2⟩
theorem BestT.done {rs : List (Int × Int × Int × Int)} {s1 n s R : Int} (hb : BestT rs (DT 511 s1) n s R) :
    (n = 0 ∧ s = 0 ∧ R = 0 ∧ ColsIs rs none) ∨ (0 < n ∧ BestIs rs R s ∧ n = cntF rs R s) := by
  have hall : ∀ R' s', Cand R' s' → DT 511 s1 R' s' := fun R' s' hc => .inl (by obtain ⟨h1 | h1, h2, h3⟩ := hc <;> subst h1 <;> omega)
  rcases hb.2 with ⟨h1, h2, h3⟩ | ⟨hc, hn, h0, hlt⟩
  · subst h1 h2 h3
    have hz : ∀ R' s', Cand R' s' → cntF rs R' s' = 0 := fun R' s' hc => by have := hb.1 R' s' hc (hall R' s' hc); omega
    have c53 : Cand 53 3 := ⟨.inl rfl, by omega, by omega⟩
    refine .inl ⟨rfl, rfl, rfl, 53, 3, ⟨c53, fun R' s' hc => by rw [hz _ _ hc, hz _ _ c53]; omega, fun R' s' hc _ => ?_⟩, .inl ⟨by rw [hz _ _ c53]; omega, rfl⟩⟩
    obtain ⟨h1 | h1, h2, h3⟩ := hc <;> subst h1 <;> omega
  · refine .inr ⟨h0, ⟨hc, fun R' s' hc' => ?_, fun R' s' hc' he => ?_⟩, hn⟩
    · have := hb.1 R' s' hc' (hall R' s' hc'); omega
    · rcases Int.lt_or_le (R' * s') (R * s) with g | g
      · have := hlt R' s' hc' g; omega
      · exact g

/-! ### lists of four numbers an element -/
def qCells (l : List (Int × Int × Int × Int)) : List Value := l.flatMap fun r => [.int .i64 r.1, .int .i64 r.2.1, .int .i64 r.2.2.1, .int .i64 r.2.2.2]
theorem qCells_snoc (l : List (Int × Int × Int × Int)) (r : Int × Int × Int × Int) : qCells (l ++ [r]) = qCells l ++ [.int .i64 r.1, .int .i64 r.2.1, .int .i64 r.2.2.1, .int .i64 r.2.2.2] := by simp [qCells]
theorem qCells_at : ∀ {l : List (Int × Int × Int × Int)} {i : Nat} {r : Int × Int × Int × Int}, l[i]? = some r → (qCells l)[i * 4]? = some (.int .i64 r.1) ∧ (qCells l)[i * 4 + 1]? = some (.int .i64 r.2.1) ∧ (qCells l)[i * 4 + 2]? = some (.int .i64 r.2.2.1) ∧ (qCells l)[i * 4 + 3]? = some (.int .i64 r.2.2.2)
  | [], i, r, h => by simp at h
  | a :: l, 0, r, h => by simp at h; subst h; simp [qCells]
  | a :: l, i + 1, r, h => by
    have := qCells_at (l := l) (i := i) (r := r) (by simpa using h)
    have e1 : (i + 1) * 4 = i * 4 + 1 + 1 + 1 + 1 := by omega
    have e : qCells (a :: l) = [Value.int .i64 a.1, .int .i64 a.2.1, .int .i64 a.2.2.1, .int .i64 a.2.2.2] ++ qCells l := by simp [qCells]
    rw [e, e1]
    simpa using this

def QuadsAt (w : World) (g : Nat) (rs : List (Int × Int × Int × Int)) : Prop :=
  ∀ i r, rs[i]? = some r → w.cell? ⟨g, i * 4, none⟩ = some (.int .i64 r.1) ∧ w.cell? ⟨g, i * 4 + 1, none⟩ = some (.int .i64 r.2.1) ∧ w.cell? ⟨g, i * 4 + 2, none⟩ = some (.int .i64 r.2.2.1) ∧ w.cell? ⟨g, i * 4 + 3, none⟩ = some (.int .i64 r.2.2.2)
theorem QuadsAt.keep {B : Nat} {w w1 : World} {g : Nat} {rs : List (Int × Int × Int × Int)} (h : QuadsAt w g rs) (hb : Below B w w1) (hg : g < B) : QuadsAt w1 g rs := fun i r hr => by
  obtain ⟨a, b, c, d⟩ := h i r hr
  exact ⟨_root_.Go.Proofs.YtnfgedbcfclnmaaGreat.keep hb a hg, _root_.Go.Proofs.YtnfgedbcfclnmaaGreat.keep hb b hg, _root_.Go.Proofs.YtnfgedbcfclnmaaGreat.keep hb c hg, _root_.Go.Proofs.YtnfgedbcfclnmaaGreat.keep hb d hg⟩
theorem own_quads {w : World} {base : Nat} {e : TypeId} {v : Value} {n : Nat} {l : List (Int × Int × Int × Int)} (h : w.ownsRow base e 4 v n (qCells l)) (hl : l.length = n) (hn : 0 < n) :
    ∃ g cap, v = .slice (some ⟨g, 0, none⟩) n cap ∧ base ≤ g ∧ g < w.heap.size ∧ n ≤ cap ∧ cap ≤ maxLen ∧ QuadsAt w g l := by
  obtain ⟨g, cap, rfl, h1, h2, h3, h4⟩ := own_some h hn
  refine ⟨g, cap, rfl, h1, h2, h3, h4, fun i r hr => ?_⟩
  have hi := (List.getElem?_eq_some_iff.1 hr).1
  obtain ⟨a, b, c, d⟩ := qCells_at hr
  exact ⟨(h.cellAt (i * 4) (by omega)).trans a, (h.cellAt (i * 4 + 1) (by omega)).trans b, (h.cellAt (i * 4 + 2) (by omega)).trans c, (h.cellAt (i * 4 + 3) (by omega)).trans d⟩

theorem own_snoc {w : World} {base : Nat} {t : TypeId} {v : Value} {n : Nat} {l : List Int} {q x : Int} (h : w.ownsRow base t 1 v n (l.map (Value.int .i64) ++ [.int .i64 q])) (e : q = x) : w.ownsRow base t 1 v n ((l ++ [x]).map (Value.int .i64)) := by
  subst e; rw [List.map_append]; exact h

/-- The first and the last full column so far. -/
def FT (rs : List (Int × Int × Int × Int)) (s R : Int) (x : Nat) (f t : Int) : Prop :=
  (f = -1 ∧ t = -1 ∧ ∀ j, j < x → fullB (rs.getD j (0, 0, 0, 0)) s R = false) ∨
  ∃ a b : Nat, f = a ∧ t = b ∧ a < x ∧ b < x ∧ fullB (rs.getD a (0, 0, 0, 0)) s R = true ∧ (∀ j, j < a → fullB (rs.getD j (0, 0, 0, 0)) s R = false) ∧ fullB (rs.getD b (0, 0, 0, 0)) s R = true ∧ ∀ j, b < j → j < x → fullB (rs.getD j (0, 0, 0, 0)) s R = false
theorem FT.no {rs : List (Int × Int × Int × Int)} {s R : Int} {x : Nat} {f t : Int} (h : FT rs s R x f t) (hf : fullB (rs.getD x (0, 0, 0, 0)) s R = false) : FT rs s R (x + 1) f t := by
  rcases h with ⟨h1, h2, h3⟩ | ⟨a, b, h1, h2, h3, h4, h5, h6, h7, h8⟩
  · refine .inl ⟨h1, h2, fun j hj => ?_⟩
    rcases Nat.lt_or_eq_of_le (Nat.le_of_lt_succ hj) with g | rfl
    · exact h3 j g
    · exact hf
  · refine .inr ⟨a, b, h1, h2, by omega, by omega, h5, h6, h7, fun j hj hj2 => ?_⟩
    rcases Nat.lt_or_eq_of_le (Nat.le_of_lt_succ hj2) with g | rfl
    · exact h8 j hj g
    · exact hf
theorem FT.first {rs : List (Int × Int × Int × Int)} {s R : Int} {x : Nat} {f t : Int} (h : FT rs s R x f t) (hf : fullB (rs.getD x (0, 0, 0, 0)) s R = true) (hneg : f < 0) : FT rs s R (x + 1) x x := by
  rcases h with ⟨h1, h2, h3⟩ | ⟨a, b, h1, h2, h3, h4, h5, h6, h7, h8⟩
  · exact .inr ⟨x, x, rfl, rfl, by omega, by omega, hf, h3, hf, fun j hj hj2 => by omega⟩
  · omega
theorem FT.later {rs : List (Int × Int × Int × Int)} {s R : Int} {x : Nat} {f t : Int} (h : FT rs s R x f t) (hf : fullB (rs.getD x (0, 0, 0, 0)) s R = true) (hneg : 0 ≤ f) : FT rs s R (x + 1) f x := by
  rcases h with ⟨h1, h2, h3⟩ | ⟨a, b, h1, h2, h3, h4, h5, h6, h7, h8⟩
  · omega
  · exact .inr ⟨a, x, h1, rfl, by omega, by omega, h5, h6, hf, fun j hj hj2 => by omega⟩
theorem FT.range {rs : List (Int × Int × Int × Int)} {s R : Int} {x : Nat} {f t : Int} (h : FT rs s R x f t) : -1 ≤ f ∧ f < x + 1 ∧ -1 ≤ t ∧ t < x + 1 := by
  rcases h with ⟨h1, h2, h3⟩ | ⟨a, b, h1, h2, h3, h4, h5, h6, h7, h8⟩ <;> omega
theorem FT.done {rs : List (Int × Int × Int × Int)} {s R : Int} {f t : Int} (h : FT rs s R rs.length f t) (hpos : 0 < cntF rs R s) : ∃ a b : Nat, f = a ∧ t = b ∧ FirstIs rs s R a ∧ LastIs rs s R b := by
  rcases h with ⟨h1, h2, h3⟩ | ⟨a, b, h1, h2, h3, h4, h5, h6, h7, h8⟩
  · obtain ⟨a, ha⟩ := first_ex hpos
    have := h3 a ha.1
    rw [ha.2.1] at this; cases this
  · exact ⟨a, b, h1, h2, ⟨h3, h5, h6⟩, ⟨h4, h7, h8⟩⟩

theorem topsF_len {rs : List (Int × Int × Int × Int)} {s R : Int} {a b : Nat} (h : a ≤ b) (hb : b < rs.length) : (topsF rs s R a b).length = rs.length := by
  simp only [topsF, List.length_append, List.length_replicate, fillF_len, midF_length hb]; omega
theorem topsF_get {rs : List (Int × Int × Int × Int)} {s R : Int} {a b i : Nat} (h : a ≤ b) (hb : b < rs.length) (hi : i < rs.length) : (topsF rs s R a b)[i]? = some (if a ≤ i ∧ i ≤ b then (fillF (midF rs s R a b)).getD (i - a) 0 else -1) := by
  have hm : (fillF (midF rs s R a b)).length = b + 1 - a := by rw [fillF_len, midF_length hb]
  rw [topsF]
  rcases Nat.lt_or_ge i a with g1 | g1
  · rw [if_neg (by omega), List.append_assoc, List.getElem?_append_left (by simp; omega), List.getElem?_replicate_of_lt g1]
  · rcases Nat.lt_or_ge b i with g2 | g2
    · rw [if_neg (by omega), List.getElem?_append_right (by simp [hm]; omega), List.getElem?_replicate_of_lt (by simp [hm]; omega)]
    · rw [if_pos ⟨g1, g2⟩, List.append_assoc, List.getElem?_append_right (by simp; omega), List.length_replicate, List.getElem?_append_left (by omega)]
      exact getD_some (by omega)
theorem take_snoc {α : Type} {l : List α} {i : Nat} {x : α} (h : l[i]? = some x) : l.take (i + 1) = l.take i ++ [x] := by
  rw [List.take_add_one, h]; rfl

end Go.Proofs.YtnfgedbcfclnmaaGreat
