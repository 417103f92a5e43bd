/- What Find computes. -/
import Derived.Test.YtnfgedbcfclnmaaGreatAgreeBad
import Derived.Test.YtnfgedbcfclnmaaGreatAgree
import Derived.Test.YtnfgedbcfclnmaaGreatColsOk
import Derived.Test.YtnfgedbcfclnmaaGreatColW
import Derived.Test.YtnfgedbcfclnmaaGreatLeftsW
set_option linter.unusedVariables false
set_option linter.unusedSimpArgs false
namespace Go.Proofs.YtnfgedbcfclnmaaGreat
open Go.RowKit

/-- What Columns finds. -/
def ColsFor (i : Img) (o : Option (List Int × Int × Int)) : Prop := ∃ rs, StList i.1 i.2.1 i.2.2 rs ∧ ColsIs rs o
theorem ColsFor.unique {i : Img} {o p : Option (List Int × Int × Int)} (h : ColsFor i o) (k : ColsFor i p) : o = p := by
  obtain ⟨rs, h1, h2⟩ := h
  obtain ⟨ts, k1, k2⟩ := k
  obtain rfl := h1.unique k1
  exact h2.unique k2
theorem ColsFor.ok {i : Img} (hi : IOk i) {l : List Int} {s R : Int} (h : ColsFor i (some (l, s, R))) : listOk l = true ∧ l.length = i.1 ∧ (3 ≤ s ∧ s ≤ 6) ∧ (R = 53 ∨ R = 85) := by
  obtain ⟨rs, h1, h2⟩ := h
  have := cols_ok (h1.bound (by have := hi.h2; omega)) h2
  have hl := h1.1
  exact ⟨this.1, by omega, this.2.2⟩

/-- The upright image of a turn. -/
def upI (i : Img) (t : Nat) : Img := turnI i (invF t).toNat
/-- Tops, scale, rows, lefts. -/
abbrev Fr := List Int × Int × Int × List Int
open Classical in
/-- The frame that is accepted for an upright image. -/
def AccIs (u : Img) (x : Option Fr) : Prop :=
  ∃ o, ColsFor u o ∧ ((o = none ∧ x = none) ∨ ∃ l s R out, o = some (l, s, R) ∧ EdgesAre u.1 u.2.1 u.2.2 l s R out ∧
    x = if listOk (fillF out) = true ∧ 3 * allN (levN R) ≤ 4 * agreeN u.1 u.2.1 u.2.2 l (fillF out) s (levN R) then some (l, s, R, fillF out) else none)
theorem AccIs.unique {u : Img} {x y : Option Fr} (h : AccIs u x) (k : AccIs u y) : x = y := by
  obtain ⟨o, h1, h2⟩ := h
  obtain ⟨p, k1, k2⟩ := k
  obtain rfl := h1.unique k1
  rcases h2 with ⟨h2, h3⟩ | ⟨l, s, R, out, h2, h3, h4⟩ <;> rcases k2 with ⟨k2, k3⟩ | ⟨l', s', R', out', k2, k3, k4⟩
  · rw [h3, k3]
  · rw [h2] at k2; cases k2
  · rw [h2] at k2; cases k2
  · rw [h2] at k2
    injection k2 with k2
    injection k2 with e1 k2
    injection k2 with e2 e3
    subst e1 e2 e3
    obtain rfl := h3.unique k3
    rw [h4, k4]

/-- The accepted frames, with their turns. -/
def accL (xs : Nat → Option Fr) (n : Nat) : List (Nat × Fr) := (List.range n).filterMap fun t => (xs t).map fun f => (t, f)
theorem accL_succ (xs : Nat → Option Fr) (n : Nat) : accL xs (n + 1) = accL xs n ++ ((xs n).map fun f => (n, f)).toList := by
  unfold accL
  rw [List.range_succ, List.filterMap_append]
  congr 1
theorem accL_len (xs : Nat → Option Fr) (n : Nat) : (accL xs n).length ≤ n := by
  unfold accL
  exact Nat.le_trans (List.length_filterMap_le _ _) (by simp)
theorem accL_congr {xs ys : Nat → Option Fr} {n : Nat} (h : ∀ t, t < n → xs t = ys t) : accL xs n = accL ys n := by
  induction n with
  | zero => rfl
  | succ n ih => rw [accL_succ, accL_succ, ih (fun t ht => h t (by omega)), h n (by omega)]

def zeroFrame : Value := .agg #[.int .i64 0, .int .i64 0, .int .i64 0, .slice none 0 0, .slice none 0 0]
/-- What Find returns for a list of accepted frames. -/
def FoundRes (acc : List (Nat × Fr)) (w : World) (e : Ending) (w' : World) : Prop :=
  Below w.heap.size w w' ∧
  match acc with
  | [] => e = .returned (.tuple #[.agg #[.int .i64 0, .int .i64 0, .int .i64 0, .slice none 0 0, .slice none 0 0], .agg #[.int .i64 12, .int .i64 (-1)]])
  | [(t, l, s, R, o)] => ∃ tv lv, e = .returned (.tuple #[.agg #[.int .i64 t, .int .i64 s, .int .i64 R, tv, lv], .agg #[.int .i64 0, .int .i64 0]]) ∧ w'.ownsRow w.heap.size 3 1 tv l.length (l.map (Value.int .i64)) ∧ w'.ownsRow w.heap.size 3 1 lv o.length (o.map (Value.int .i64))
  | _ :: _ :: _ => e = .returned (.tuple #[.agg #[.int .i64 0, .int .i64 0, .int .i64 0, .slice none 0 0, .slice none 0 0], .agg #[.int .i64 23, .int .i64 (-1)]])
def FindRet (i : Img) (w : World) (e : Ending) (w' : World) : Prop := ∃ xs, (∀ t, t < 8 → AccIs (upI i t) (xs t)) ∧ FoundRes (accL xs 8) w e w'

theorem own_other {w : World} {b1 b2 : Nat} {e1 e2 : TypeId} {s1 s2 : Nat} {v1 v2 : Value} {n1 n2 : Nat} {xs1 xs2 : List Value} (h : w.ownsRow b1 e1 s1 v1 n1 xs1) (k : w.ownsRow b2 e2 s2 v2 n2 xs2) (hne : e1 ≠ e2) : v1.ownBlock = none ∨ v1.ownBlock ≠ v2.ownBlock := by
  rcases h.2 with ⟨rfl, -⟩ | ⟨g1, c1, r1, rfl, -, hg1, -⟩
  · exact .inl rfl
  · refine .inr fun e => ?_
    rcases k.2 with ⟨rfl, -⟩ | ⟨g2, c2, r2, rfl, -, hg2, -⟩
    · cases e
    · have e' : g1 = g2 := by injection e
      subst e'
      rw [hg1] at hg2
      injection hg2 with hg2
      injection hg2 with _ hg2
      exact hne hg2

/-- The first of the accepted frames lies in memory. -/
def FirstOk (B : Nat) (wx : World) (acc : List (Nat × Fr)) (ys : List Value) : Prop :=
  ∀ t l s R o rest, acc = (t, l, s, R, o) :: rest → ∃ tv lv zs, ys = .int .i64 t :: .int .i64 s :: .int .i64 R :: tv :: lv :: zs ∧ wx.ownsRow B 3 1 tv l.length (l.map (Value.int .i64)) ∧ wx.ownsRow B 3 1 lv o.length (o.map (Value.int .i64))
theorem FirstOk.keep {B : Nat} {wx w1 : World} {acc : List (Nat × Fr)} {ys : List Value} (h : FirstOk B wx acc ys) (hb : Below wx.heap.size wx w1) : FirstOk B w1 acc ys := fun t l s R o rest e => by
  obtain ⟨tv, lv, zs, h1, h2, h3⟩ := h t l s R o rest e
  exact ⟨tv, lv, zs, h1, own_keep h2 hb, own_keep h3 hb⟩
theorem FirstOk.app {B b2 e2 s2 n2 : Nat} {wx w1 : World} {acc : List (Nat × Fr)} {ys xs2 : List Value} {v : Value} (h : FirstOk B wx acc ys) (hv : wx.ownsRow b2 e2 s2 v n2 xs2) (he : 3 ≠ e2) (hg : wx.grownBy w1 v.ownBlock) (hne : acc ≠ []) (x : Nat × Fr) (news : List Value) : FirstOk B w1 (acc ++ [x]) (ys ++ news) := fun t l s R o rest e => by
  cases acc with
  | nil => exact absurd rfl hne
  | cons y acc =>
    injection e with e1 e2'
    obtain ⟨tv, lv, zs, h1, h2, h3⟩ := h t l s R o acc (by rw [e1])
    exact ⟨tv, lv, zs ++ news, by rw [h1]; rfl, h2.kept hg (own_other h2 hv he), h3.kept hg (own_other h3 hv he)⟩

structure FnEnv (w : World) (iv : Array Value) (wx : World) : Prop where
  below : Below w.heap.size w wx
  img : Blk wx w.heap.size iv 24
  res : Blk wx (w.heap.size + 1) #[.int .i64 0, .int .i64 0, .int .i64 0, .slice none 0 0, .slice none 0 0] 27
  f : Blk wx (w.heap.size + 1 + 1) #[.int .i64 0, .int .i64 0] 29
theorem FnEnv.keep {w wx w1 : World} {iv : Array Value} (h : FnEnv w iv wx) (hb : Below wx.heap.size wx w1) : FnEnv w iv w1 :=
  ⟨binto h.below hb, h.img.keep hb h.img.lt, h.res.keep hb h.res.lt, h.f.keep hb h.f.lt⟩
theorem FnEnv.grown {w wx w1 : World} {iv : Array Value} {e s n : Nat} {v : Value} {xs : List Value} (h : FnEnv w iv wx) (hv : wx.ownsRow (w.heap.size + 3) e s v n xs) (hg : wx.grownBy w1 v.ownBlock) : FnEnv w iv w1 :=
  ⟨h.below.grown hg h.below.size (fun k hk => by have := (hv.lt k hk).1; omega), h.img.grown hg (own_ne hv (by omega)), h.res.grown hg (own_ne hv (by omega)), h.f.grown hg (own_ne hv (by omega))⟩

structure FnSt (w : World) (iv : Array Value) (v : Value) (acc : List (Nat × Fr)) (ys : List Value) (wx : World) : Prop where
  env : FnEnv w iv wx
  own : wx.ownsRow (w.heap.size + 3) 27 5 v acc.length ys
  first : FirstOk (w.heap.size + 3) wx acc ys
theorem FnSt.keep {w wx w1 : World} {iv : Array Value} {v : Value} {acc : List (Nat × Fr)} {ys : List Value} (h : FnSt w iv v acc ys wx) (hb : Below wx.heap.size wx w1) : FnSt w iv v acc ys w1 :=
  ⟨h.env.keep hb, own_keep h.own hb, h.first.keep hb⟩

theorem FnSt.push {w wx w1 : World} {iv : Array Value} {v v' tv lv : Value} {acc : List (Nat × Fr)} {ys : List Value} {n B1 B2 : Nat} {l fo : List Int} {s R : Int} (h : FnSt w iv v acc ys wx) (hg : wx.grownBy w1 v.ownBlock)
    (ho : w1.ownsRow (w.heap.size + 3) 27 5 v' (acc.length + 1) (ys ++ [.int .i64 n, .int .i64 s, .int .i64 R, tv, lv]))
    (ht : wx.ownsRow B1 3 1 tv l.length (l.map (Value.int .i64))) (hl : wx.ownsRow B2 3 1 lv fo.length (fo.map (Value.int .i64))) (h1 : w.heap.size + 3 ≤ B1) (h2 : w.heap.size + 3 ≤ B2) :
    FnSt w iv v' (acc ++ [(n, l, s, R, fo)]) (ys ++ [.int .i64 n, .int .i64 s, .int .i64 R, tv, lv]) w1 := by
  refine ⟨h.env.grown h.own hg, by rw [List.length_append]; exact ho, ?_⟩
  by_cases ha : acc = []
  · subst ha
    have hy : ys = [] := by have := h.own.1; simpa using this
    subst hy
    intro t l' s' R' o' rest e
    rw [List.nil_append] at e
    injection e with e1 e2
    injection e1 with e1 e3
    injection e3 with e3 e4
    injection e4 with e4 e5
    injection e5 with e5 e6
    subst e1 e3 e4 e5 e6
    exact ⟨tv, lv, [], rfl, own_base (ht.kept hg (own_other ht h.own (by decide))) h1, own_base (hl.kept hg (own_other hl h.own (by decide))) h2⟩
  · exact h.first.app h.own (by decide) hg ha _ _

theorem Tryz.infoFrame : (Tryz.prog.info? 27).map (fun i => (i.zero, i.size, i.bytes)) = some (some (.agg #[.int .i64 0, .int .i64 0, .int .i64 0, .slice none 0 0, .slice none 0 0]), 5, 72) := by kernel_rfl

end Go.Proofs.YtnfgedbcfclnmaaGreat
