/- What locate.Columns and TopsOf look for: the pair of a number of rows and a scale with the most full columns, the least height first. -/
import Derived.Test.YtnfgedbcfclnmaaGreatIdx
import Derived.Test.YtnfgedbcfclnmaaGreatFillF
import Derived.Laws.CopyOwn
set_option linter.unusedVariables false
set_option linter.unusedSimpArgs false
namespace Go.Proofs.YtnfgedbcfclnmaaGreat
open Go.RowKit

def Cand (R s : Int) : Prop := (R = 53 ∨ R = 85) ∧ 3 ≤ s ∧ s ≤ 6
def cntF (rs : List (Int × Int × Int × Int)) (R s : Int) : Nat := rs.countP (fun r => fullB r s R)

theorem Cand.height {R s R' s' : Int} (h : Cand R s) (k : Cand R' s') (e : R * s = R' * s') : R = R' ∧ s = s' := by
  obtain ⟨h1 | h1, h2, h3⟩ := h <;> obtain ⟨k1 | k1, k2, k3⟩ := k <;> subst h1 k1 <;> exact ⟨by omega, by omega⟩

/-- The pair that is found. -/
def BestIs (rs : List (Int × Int × Int × Int)) (R s : Int) : Prop :=
  Cand R s ∧ (∀ R' s', Cand R' s' → cntF rs R' s' ≤ cntF rs R s) ∧ ∀ R' s', Cand R' s' → cntF rs R' s' = cntF rs R s → R * s ≤ R' * s'

theorem BestIs.unique {rs : List (Int × Int × Int × Int)} {R s R' s' : Int} (h : BestIs rs R s) (k : BestIs rs R' s') : R = R' ∧ s = s' := by
  have h1 := h.2.1 _ _ k.1
  have h2 := k.2.1 _ _ h.1
  have h3 := h.2.2 _ _ k.1 (by omega)
  have h4 := k.2.2 _ _ h.1 (by omega)
  exact h.1.height k.1 (by omega)

/-- The top of a column of pixels: of a full one, or of another. -/
def tvF (r : Int × Int × Int × Int) (s R : Int) : Int := if fullB r s R then r.1 else topF r s R

/-- The tops from column a to column b. -/
def midF (rs : List (Int × Int × Int × Int)) (s R : Int) (a b : Nat) : List Int := ((rs.drop a).take (b + 1 - a)).map (fun r => tvF r s R)

noncomputable def topsF (rs : List (Int × Int × Int × Int)) (s R : Int) (a b : Nat) : List Int := List.replicate a (-1) ++ fillF (midF rs s R a b) ++ List.replicate (rs.length - (b + 1)) (-1)

def FirstIs (rs : List (Int × Int × Int × Int)) (s R : Int) (a : Nat) : Prop := a < rs.length ∧ fullB (rs.getD a (0, 0, 0, 0)) s R = true ∧ ∀ j, j < a → fullB (rs.getD j (0, 0, 0, 0)) s R = false
def LastIs (rs : List (Int × Int × Int × Int)) (s R : Int) (b : Nat) : Prop := b < rs.length ∧ fullB (rs.getD b (0, 0, 0, 0)) s R = true ∧ ∀ j, b < j → j < rs.length → fullB (rs.getD j (0, 0, 0, 0)) s R = false

theorem FirstIs.unique {rs : List (Int × Int × Int × Int)} {s R : Int} {a b : Nat} (h : FirstIs rs s R a) (k : FirstIs rs s R b) : a = b := by
  rcases Nat.lt_trichotomy a b with g | g | g
  · have := k.2.2 a g; rw [h.2.1] at this; cases this
  · exact g
  · have := h.2.2 b g; rw [k.2.1] at this; cases this
theorem LastIs.unique {rs : List (Int × Int × Int × Int)} {s R : Int} {a b : Nat} (h : LastIs rs s R a) (k : LastIs rs s R b) : a = b := by
  rcases Nat.lt_trichotomy a b with g | g | g
  · have := h.2.2 b g k.1; rw [k.2.1] at this; cases this
  · exact g
  · have := k.2.2 a g h.1; rw [h.2.1] at this; cases this
theorem FirstIs.le {rs : List (Int × Int × Int × Int)} {s R : Int} {a b : Nat} (h : FirstIs rs s R a) (k : LastIs rs s R b) : a ≤ b := by
  rcases Nat.lt_or_ge b a with g | g
  · have := h.2.2 b g; rw [k.2.1] at this; cases this
  · exact g

theorem first_ex {rs : List (Int × Int × Int × Int)} {s R : Int} (h : 0 < cntF rs R s) : ∃ a, FirstIs rs s R a := by
  cases hf : rs.findIdx? (fun r => fullB r s R) with
  | none =>
    rw [List.findIdx?_eq_none_iff] at hf
    rw [cntF, List.countP_pos_iff] at h
    obtain ⟨r, hr, hf2⟩ := h
    have := hf r hr
    rw [hf2] at this; cases this
  | some a =>
    rw [List.findIdx?_eq_some_iff_getElem] at hf
    obtain ⟨h1, h2, h3⟩ := hf
    refine ⟨a, h1, by simpa [List.getD, h1] using h2, fun j hj => ?_⟩
    have := h3 j hj
    simpa [List.getD, show j < rs.length by omega] using this

theorem midF_length {rs : List (Int × Int × Int × Int)} {s R : Int} {a b : Nat} (h : b < rs.length) : (midF rs s R a b).length = b + 1 - a := by
  simp [midF]; omega
theorem midF_get {rs : List (Int × Int × Int × Int)} {s R : Int} {a b k : Nat} (h : b < rs.length) (hk : a + k ≤ b) : (midF rs s R a b).getD k 0 = tvF (rs.getD (a + k) (0, 0, 0, 0)) s R := by
  have h1 : k < (midF rs s R a b).length := by rw [midF_length h]; omega
  have h2 : a + k < rs.length := by omega
  simp [List.getD, h1, h2]
  simp [midF]

/-- What locate.Columns and TopsOf answer for the columns of an image. -/
def ColsIs (rs : List (Int × Int × Int × Int)) (o : Option (List Int × Int × Int)) : Prop :=
  ∃ R s, BestIs rs R s ∧ (((cntF rs R s : Int) < 29 * s ∧ o = none) ∨ (29 * s ≤ (cntF rs R s : Int) ∧ ∃ a b, FirstIs rs s R a ∧ LastIs rs s R b ∧ o = some (topsF rs s R a b, s, R)))

theorem ColsIs.unique {rs : List (Int × Int × Int × Int)} {o p : Option (List Int × Int × Int)} (h : ColsIs rs o) (k : ColsIs rs p) : o = p := by
  obtain ⟨R, s, hb, hc⟩ := h
  obtain ⟨R', s', kb, kc⟩ := k
  obtain ⟨rfl, rfl⟩ := hb.unique kb
  rcases hc with ⟨h1, rfl⟩ | ⟨h1, a, b, ha, hb', rfl⟩ <;> rcases kc with ⟨k1, rfl⟩ | ⟨k1, a', b', ka, kb', rfl⟩
  · rfl
  · omega
  · omega
  · obtain rfl := ha.unique ka
    obtain rfl := hb'.unique kb'
    rfl

/-- The columns of an image. -/
def StList (W H : Int) (px : List Int) (rs : List (Int × Int × Int × Int)) : Prop := (rs.length : Int) = W ∧ ∀ x : Nat, x < rs.length → StretchIs (darkB W H px x) (rs.getD x (0, 0, 0, 0))
theorem StList.unique {W H : Int} {px : List Int} {rs ts : List (Int × Int × Int × Int)} (h : StList W H px rs) (k : StList W H px ts) : rs = ts := by
  have hl : rs.length = ts.length := by have := h.1; have := k.1; omega
  apply List.ext_getElem hl
  intro i h1 h2
  have a := h.2 i h1
  have b := k.2 i h2
  have := a.unique b
  simpa [List.getD, h1, h2] using this
theorem StList.bound {W H : Int} {px : List Int} {rs : List (Int × Int × Int × Int)} (h : StList W H px rs) (hH : H ≤ 640) : ∀ r ∈ rs, StB r := by
  intro r hr
  obtain ⟨i, hi, rfl⟩ := List.getElem_of_mem hr
  have := (h.2 i hi).bounds hH
  simpa [List.getD, hi] using this

/-- The columns so far, while they are collected. -/
theorem cnt_take {p : (Int × Int × Int × Int) → Bool} {rs : List (Int × Int × Int × Int)} {x : Nat} (h : x < rs.length) : (rs.take (x + 1)).countP p = (rs.take x).countP p + if p (rs.getD x (0, 0, 0, 0)) then 1 else 0 := by
  rw [List.take_add_one, List.countP_append]
  simp [List.getD, h, List.countP_cons]

/-- The best pair among those that were looked at. -/
def BestC (rs : List (Int × Int × Int × Int)) (D : Int → Int → Prop) (most s R : Int) : Prop :=
  (∀ R' s', Cand R' s' → D R' s' → (cntF rs R' s' : Int) ≤ most ∧ ((cntF rs R' s' : Int) = most → R * s ≤ R' * s')) ∧ ((most = -1 ∧ s = 0 ∧ R = 0) ∨ (Cand R s ∧ most = cntF rs R s))
def DC (R0 s0 R s : Int) : Prop := R < R0 ∨ (R = R0 ∧ s < s0)

theorem BestC.start {rs : List (Int × Int × Int × Int)} : BestC rs (DC 53 3) (-1) 0 0 :=
  ⟨fun R' s' hc hd => by obtain ⟨h1, h2, h3⟩ := hc; rcases hd with g | ⟨g, k⟩ <;> omega, .inl ⟨rfl, rfl, rfl⟩⟩
theorem BestC.rows {rs : List (Int × Int × Int × Int)} {R0 s0 R1 most s R : Int} (h : BestC rs (DC R0 s0) most s R) (hs : 7 ≤ s0) (hR : R0 = 53 ∧ R1 = 85 ∨ R0 = 85 ∧ R1 = 100) : BestC rs (DC R1 3) most s R :=
  ⟨fun R' s' hc hd => h.1 R' s' hc (by obtain ⟨h1, h2, h3⟩ := hc; rcases hd with g | ⟨g, k⟩ <;> simp only [DC] <;> omega), h.2⟩
theorem BestC.range {rs : List (Int × Int × Int × Int)} {D : Int → Int → Prop} {most s R : Int} (h : BestC rs D most s R) (hl : rs.length ≤ 640) : -1 ≤ most ∧ most ≤ 640 ∧ 0 ≤ s ∧ s ≤ 6 ∧ 0 ≤ R ∧ R ≤ 85 := by
  rcases h.2 with ⟨h1, h2, h3⟩ | ⟨⟨h1, h2, h3⟩, h4⟩
  · omega
  · have : cntF rs R s ≤ rs.length := List.countP_le_length
    omega
theorem BestC.take {rs : List (Int × Int × Int × Int)} {R1 s1 most s R : Int} (h : BestC rs (DC R1 s1) most s R) (hc : Cand R1 s1) (hu : most < (cntF rs R1 s1 : Int) ∨ ((cntF rs R1 s1 : Int) = most ∧ R1 * s1 < R * s)) : BestC rs (DC R1 (s1 + 1)) (cntF rs R1 s1) s1 R1 := by
  refine ⟨fun R' s' hc' hd => ?_, .inr ⟨hc, rfl⟩⟩
  by_cases hd1 : DC R1 s1 R' s'
  · obtain ⟨g1, g2⟩ := h.1 R' s' hc' hd1
    rcases hu with u | ⟨u, v⟩
    · exact ⟨by omega, by omega⟩
    · exact ⟨by omega, fun e => by have := g2 (by omega); omega⟩
  · have e1 : R' = R1 ∧ s' = s1 := by
      simp only [DC] at hd hd1; omega
    obtain ⟨rfl, rfl⟩ := e1
    exact ⟨Int.le_refl _, fun _ => Int.le_refl _⟩
theorem BestC.leave {rs : List (Int × Int × Int × Int)} {R1 s1 most s R : Int} (h : BestC rs (DC R1 s1) most s R) (h1 : (cntF rs R1 s1 : Int) ≤ most) (h2 : (cntF rs R1 s1 : Int) = most → R * s ≤ R1 * s1) : BestC rs (DC R1 (s1 + 1)) most s R := by
  refine ⟨fun R' s' hc' hd => ?_, h.2⟩
  by_cases hd1 : DC R1 s1 R' s'
  · exact h.1 R' s' hc' hd1
  · have e1 : R' = R1 ∧ s' = s1 := by
      simp only [DC] at hd hd1; omega
    obtain ⟨rfl, rfl⟩ := e1
    exact ⟨h1, h2⟩
theorem BestC.done {rs : List (Int × Int × Int × Int)} {s0 most s R : Int} (h : BestC rs (DC 100 s0) most s R) : BestIs rs R s ∧ most = cntF rs R s := by
  have hall : ∀ R' s', Cand R' s' → DC 100 s0 R' s' := fun R' s' hc => .inl (by rcases hc.1 with g | g <;> omega)
  rcases h.2 with ⟨h1, h2, h3⟩ | ⟨hc, hm⟩
  · have := (h.1 53 3 ⟨.inl rfl, by omega, by omega⟩ (hall _ _ ⟨.inl rfl, by omega, by omega⟩)).1
    omega
  · refine ⟨⟨hc, fun R' s' hc' => ?_, fun R' s' hc' e => ?_⟩, hm⟩
    · have := (h.1 R' s' hc' (hall _ _ hc')).1; omega
    · exact (h.1 R' s' hc' (hall _ _ hc')).2 (by omega)

/-! ### the tops, place by place -/
def tabF (k : Nat) (f : Nat → Int) : List Int := (List.range k).map f
theorem tabF_len (k : Nat) (f : Nat → Int) : (tabF k f).length = k := by simp [tabF]
theorem tabF_get {k i : Nat} (f : Nat → Int) (h : i < k) : (tabF k f)[i]? = some (f i) := by simp [tabF, h]
theorem tabF_set {k x : Nat} {f g : Nat → Int} {v : Int} (hx : g x = v) (h : ∀ i, i < k → i ≠ x → f i = g i) : (tabF k f).set x v = tabF k g := by
  apply List.ext_getElem (by simp [tabF])
  intro i h1 h2
  have hi : i < k := by simpa [tabF] using h2
  rw [List.getElem_set]
  split
  · rename_i e; subst e; simp [tabF, hx]
  · rename_i e; simp [tabF]; exact h i hi (fun e' => e e'.symm)
theorem tabF_congr {k : Nat} {f g : Nat → Int} (h : ∀ i, i < k → f i = g i) : tabF k f = tabF k g := by
  simp only [tabF]; exact List.map_congr_left fun i hi => h i (by simpa using hi)
theorem tabF_const (k : Nat) (c : Int) : tabF k (fun _ => c) = List.replicate k c := by
  apply List.ext_getElem (by simp [tabF])
  intro i h1 h2; simp [tabF]

def t1F (rs : List (Int × Int × Int × Int)) (s R : Int) (a x i : Nat) : Int := if a ≤ i ∧ i < x ∧ fullB (rs.getD i (0, 0, 0, 0)) s R = true then (rs.getD i (0, 0, 0, 0)).1 else -1
def t2F (rs : List (Int × Int × Int × Int)) (s R : Int) (a b x i : Nat) : Int := if a ≤ i ∧ i ≤ b ∧ fullB (rs.getD i (0, 0, 0, 0)) s R = true then (rs.getD i (0, 0, 0, 0)).1 else if a ≤ i ∧ i < x then topF (rs.getD i (0, 0, 0, 0)) s R else -1

theorem t1_start {rs : List (Int × Int × Int × Int)} {s R : Int} {a k : Nat} : tabF k (t1F rs s R a a) = List.replicate k (-1) := by
  rw [← tabF_const]; exact tabF_congr fun i _ => by simp only [t1F]; rw [if_neg (by omega)]
theorem t1_yes {rs : List (Int × Int × Int × Int)} {s R : Int} {a x k : Nat} (hx : a ≤ x) (hf : fullB (rs.getD x (0, 0, 0, 0)) s R = true) : (tabF k (t1F rs s R a x)).set x (rs.getD x (0, 0, 0, 0)).1 = tabF k (t1F rs s R a (x + 1)) :=
  tabF_set (by simp only [t1F]; rw [if_pos ⟨hx, by omega, hf⟩]) fun i _ hne => by
    simp only [t1F]
    have e : (a ≤ i ∧ i < x ∧ fullB (rs.getD i (0, 0, 0, 0)) s R = true) ↔ (a ≤ i ∧ i < x + 1 ∧ fullB (rs.getD i (0, 0, 0, 0)) s R = true) := by constructor <;> rintro ⟨h1, h2, h3⟩ <;> exact ⟨h1, by omega, h3⟩
    simp only [e]
theorem t1_no {rs : List (Int × Int × Int × Int)} {s R : Int} {a x k : Nat} (hf : fullB (rs.getD x (0, 0, 0, 0)) s R = false) : tabF k (t1F rs s R a x) = tabF k (t1F rs s R a (x + 1)) :=
  tabF_congr fun i _ => by
    simp only [t1F]
    have e : (a ≤ i ∧ i < x ∧ fullB (rs.getD i (0, 0, 0, 0)) s R = true) ↔ (a ≤ i ∧ i < x + 1 ∧ fullB (rs.getD i (0, 0, 0, 0)) s R = true) := by
      constructor
      · rintro ⟨h1, h2, h3⟩; exact ⟨h1, by omega, h3⟩
      · rintro ⟨h1, h2, h3⟩
        refine ⟨h1, ?_, h3⟩
        rcases Nat.lt_or_eq_of_le (Nat.le_of_lt_succ h2) with g | rfl
        · exact g
        · rw [hf] at h3; cases h3
    simp only [e]
theorem t2_start {rs : List (Int × Int × Int × Int)} {s R : Int} {a b : Nat} (hb : LastIs rs s R b) : tabF rs.length (t1F rs s R a rs.length) = tabF rs.length (t2F rs s R a b a) :=
  tabF_congr fun i hi => by
    simp only [t1F, t2F]
    have e : (a ≤ i ∧ i < rs.length ∧ fullB (rs.getD i (0, 0, 0, 0)) s R = true) ↔ (a ≤ i ∧ i ≤ b ∧ fullB (rs.getD i (0, 0, 0, 0)) s R = true) := by
      constructor
      · rintro ⟨h1, h2, h3⟩
        refine ⟨h1, ?_, h3⟩
        rcases Nat.lt_or_ge b i with g | g
        · rw [hb.2.2 i g hi] at h3; cases h3
        · exact g
      · rintro ⟨h1, h2, h3⟩; exact ⟨h1, hi, h3⟩
    simp only [e]
    split
    · rfl
    · rw [if_neg (by omega)]
theorem t2_yes {rs : List (Int × Int × Int × Int)} {s R : Int} {a b x k : Nat} (hx : a ≤ x) (hb : x ≤ b) (hf : fullB (rs.getD x (0, 0, 0, 0)) s R = true) : tabF k (t2F rs s R a b x) = tabF k (t2F rs s R a b (x + 1)) :=
  tabF_congr fun i _ => by
    simp only [t2F]
    split
    · rfl
    · rename_i hne
      have : (a ≤ i ∧ i < x) ↔ (a ≤ i ∧ i < x + 1) := by
        constructor
        · rintro ⟨h1, h2⟩; exact ⟨h1, by omega⟩
        · rintro ⟨h1, h2⟩
          refine ⟨h1, ?_⟩
          rcases Nat.lt_or_eq_of_le (Nat.le_of_lt_succ h2) with g | rfl
          · exact g
          · exact absurd ⟨h1, hb, hf⟩ hne
      simp only [this]
theorem t2_no {rs : List (Int × Int × Int × Int)} {s R : Int} {a b x k : Nat} (hx : a ≤ x) (hf : fullB (rs.getD x (0, 0, 0, 0)) s R = false) : (tabF k (t2F rs s R a b x)).set x (topF (rs.getD x (0, 0, 0, 0)) s R) = tabF k (t2F rs s R a b (x + 1)) :=
  tabF_set (by simp only [t2F, hf]; simp; omega) fun i _ hne => by
    simp only [t2F]
    have : (a ≤ i ∧ i < x) ↔ (a ≤ i ∧ i < x + 1) := by omega
    simp only [this]
theorem t2_get {rs : List (Int × Int × Int × Int)} {s R : Int} {a b i : Nat} : t2F rs s R a b (b + 1) i = if a ≤ i ∧ i ≤ b then tvF (rs.getD i (0, 0, 0, 0)) s R else -1 := by
  simp only [t2F, tvF]
  by_cases h : a ≤ i ∧ i ≤ b
  · rw [if_pos h]
    cases hf : fullB (rs.getD i (0, 0, 0, 0)) s R
    · simp; omega
    · simp; omega
  · rw [if_neg h, if_neg (by omega), if_neg (by omega)]
theorem t2_done {rs : List (Int × Int × Int × Int)} {s R : Int} {a b : Nat} (hab : a ≤ b) (hb : b < rs.length) : tabF rs.length (t2F rs s R a b (b + 1)) = List.replicate a (-1) ++ midF rs s R a b ++ List.replicate (rs.length - (b + 1)) (-1) := by
  have hm := midF_length (s := s) (R := R) (a := a) hb
  apply List.ext_getElem?
  intro i
  rcases Nat.lt_or_ge i rs.length with hi | hi
  · rw [tabF_get _ hi, t2_get]
    rcases Nat.lt_or_ge i a with g1 | g1
    · rw [if_neg (by omega), List.append_assoc, List.getElem?_append_left (by simp; omega), List.getElem?_replicate_of_lt g1]
    · rcases Nat.lt_or_ge b i with g2 | g2
      · rw [if_neg (by omega), List.getElem?_append_right (by simp [hm]; omega), List.getElem?_replicate_of_lt (by simp [hm]; omega)]
      · rw [if_pos ⟨g1, g2⟩, List.append_assoc, List.getElem?_append_right (by simp; omega), List.length_replicate, List.getElem?_append_left (by omega)]
        have := midF_get (s := s) (R := R) (a := a) (k := i - a) hb (by omega)
        rw [show a + (i - a) = i by omega] at this
        rw [← this]
        exact (getD_some (by omega)).symm
  · rw [List.getElem?_eq_none (by rw [tabF_len]; omega), List.getElem?_eq_none (by simp [hm]; omega)]

theorem tv_bound {r : Int × Int × Int × Int} {s R : Int} (h : StB r) (hs : 0 ≤ s ∧ s ≤ 6) (hR : 0 ≤ R ∧ R ≤ 85) : -1 ≤ tvF r s R ∧ tvF r s R ≤ 641 := by
  obtain ⟨h1, h2, h3, h4, h5, h6, h7, h8⟩ := h
  obtain ⟨g1, g2⟩ := sR_bound hs hR
  simp only [tvF, topF]
  repeat' split
  all_goals omega
theorem splice_mid {α : Type} (A B C D : List α) (h : D.length = B.length) : splice (A ++ B ++ C) A.length D = A ++ D ++ C := by
  unfold splice
  rw [List.append_assoc A B C, List.take_left' rfl, h]
  have : (A ++ (B ++ C)).drop (A.length + B.length) = C := by
    rw [← List.append_assoc, ← List.length_append, List.drop_left' rfl]
  rw [this]
  simp only [List.append_assoc]
theorem scan_fst (r : Int × Int × Int × Int) : (scanOf r).1 = r.1 := by
  simp only [scanOf]; split
  · rename_i h; simp [h]
  · rfl

end Go.Proofs.YtnfgedbcfclnmaaGreat
