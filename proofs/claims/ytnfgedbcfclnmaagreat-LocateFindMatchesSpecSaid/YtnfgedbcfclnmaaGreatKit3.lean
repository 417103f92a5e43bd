/- Slices that a call makes itself: one element appended; read back as lists. -/
import Derived.Test.YtnfgedbcfclnmaaGreatPts
set_option linter.unusedVariables false
set_option linter.unusedSimpArgs false
namespace Go.Proofs.YtnfgedbcfclnmaaGreat
open Go.RowKit

theorem Blk.grown {w w' : World} {row : Option Nat} {b : Nat} {cs : Array Value} {t : TypeId} (h : Blk w b cs t) (hg : w.grownBy w' row) (hne : some b ≠ row) : Blk w' b cs t :=
  (hg.block b h.lt hne).trans h

theorem own_ne {w : World} {base : Nat} {e : TypeId} {size : Nat} {v : Value} {n : Nat} {xs : List Value} (h : w.ownsRow base e size v n xs) {b : Nat} (hb : b < base) : some b ≠ v.ownBlock :=
  fun e => by have := (h.lt b e.symm).1; omega

theorem wp_app1 {P : Program} (w : World) {ops : Array Oper} {rest : List Oper} {o : Oper} {a : Act} {Q : Exit → Act → World → Prop} (hgd : o.guard = none) (s x : Operand) (t : TypeId)
    (ho : o.op = .call { callee := .builtin .append, args := #[s, x], argTypes := #[t, t] })
    (base : Nat) (e : TypeId) (z : Value) (size bytes : Nat) (ht : P.underlying t = some (.slice e)) (hinfo : (P.info? e).map (fun i => (i.zero, i.size, i.bytes)) = some (some z, size, bytes))
    (hzs : z.cells.size = size) (hsz : 0 < size) (hby : bytes ≤ 1000)
    (v : Value) (n : Nat) (xs : List Value) (hs : a.eval s = v) (hown : w.ownsRow base e size v n xs)
    (b : Nat) (news : List Value) (hx : a.eval x = .slice (some ⟨b, 0, none⟩) 1 1) (hl : news.length = size) (hblk : Blk w b news.toArray e) (h1 : ∀ u ∈ news, u.oneCell' = true)
    (h63 : n + 1 ≤ 100000000) (hbase : base ≤ w.heap.size)
    (h : ∀ v' w', w'.ownsRow base e size v' (n + 1) (xs ++ news) → w.grownBy w' v.ownBlock → wpList P ops Q rest (a.put o.dst v') w') : wpList P ops Q (o :: rest) a w := by
  obtain ⟨i, hi, hz0, hz1, hz2⟩ := info_parts hinfo
  refine wpList_append_own w hgd s x t ho base e i z size bytes ht hi hz0 hz1 hz2 hzs hsz v n xs hs hown ⟨b, 0, none⟩ 1 1 news hx (by omega) ?_ h1 (by simp only [maxLen]; omega) ?_ hbase (fun v' w' k1 k2 _ => h v' w' k1 k2)
  · intro j u hu
    rw [Addr.add_lit, Nat.zero_add]
    exact hblk.cell (by simpa using hu)
  · exact Nat.le_trans (Nat.mul_le_mul h63 hby) (by decide)

theorem flat2 {α : Type} {f g : α → Value} : ∀ {l : List α} {i : Nat} {x : α}, l[i]? = some x → (l.flatMap fun x => [f x, g x])[i * 2]? = some (f x) ∧ (l.flatMap fun x => [f x, g x])[i * 2 + 1]? = some (g x)
  | [], i, x, h => by simp at h
  | a :: l, 0, x, h => by simp at h; subst h; simp
  | a :: l, i + 1, x, h => by
    have := flat2 (f := f) (g := g) (l := l) (i := i) (x := x) (by simpa using h)
    have e1 : (i + 1) * 2 = i * 2 + 1 + 1 := by omega
    have e2 : (i + 1) * 2 + 1 = i * 2 + 1 + 1 + 1 := by omega
    rw [e1]
    simpa using this

def ptCells (l : List (Int × Int)) : List Value := l.flatMap fun p => [.int .i64 p.1, .int .i64 p.2]

/-- A slice that the call owns reads as the list of points that it holds. -/
theorem own_points {w : World} {base : Nat} {e : TypeId} {v : Value} {l : List (Int × Int)} (h : w.ownsRow base e 2 v l.length (ptCells l)) : PReads w v l := by
  have h0 := h
  obtain ⟨_, h2⟩ := h
  rcases h2 with ⟨rfl, hn⟩ | ⟨g, cap, cur, rfl, hg, hh, hn, hcap, hsz, htake⟩
  · have : l = [] := List.length_eq_zero_iff.1 hn
    subst this
    exact ⟨none, 0, rfl, by simp, by simp, .inl rfl⟩
  · refine ⟨_, cap, rfl, hn, hcap, .inr ⟨g, 0, rfl, (Array.getElem?_eq_some_iff.1 hh).1, fun i p hp => ?_⟩⟩
    have hlt := (List.getElem?_eq_some_iff.1 hp).1
    obtain ⟨f1, f2⟩ := flat2 (f := fun p : Int × Int => Value.int .i64 p.1) (g := fun p => Value.int .i64 p.2) hp
    rw [Nat.zero_add]
    exact ⟨(h0.cellAt (i * 2) (by omega)).trans f1, (h0.cellAt (i * 2 + 1) (by omega)).trans f2⟩

theorem own_reads {α : Type} {f : α → Value} {w : World} {base : Nat} {e : TypeId} {v : Value} {l : List α} (h : w.ownsRow base e 1 v l.length (l.map f)) : Reads f w v l := by
  have h0 := h
  obtain ⟨_, h2⟩ := h
  rcases h2 with ⟨rfl, hn⟩ | ⟨g, cap, cur, rfl, hg, hh, hn, hcap, hsz, htake⟩
  · have : l = [] := List.length_eq_zero_iff.1 hn
    subst this
    exact ⟨none, 0, rfl, by simp, by simp, .inl rfl⟩
  · refine ⟨_, cap, rfl, hn, hcap, .inr ⟨g, 0, rfl, (Array.getElem?_eq_some_iff.1 hh).1, fun i p hp => ?_⟩⟩
    have hlt := (List.getElem?_eq_some_iff.1 hp).1
    rw [Nat.zero_add, h0.cellAt i (by omega), List.getElem?_map, hp]; rfl

/-- A slice that the call owns, not empty, taken apart. -/
theorem own_some {w : World} {base : Nat} {e : TypeId} {size : Nat} {v : Value} {n : Nat} {xs : List Value} (h : w.ownsRow base e size v n xs) (hn : 0 < n) :
    ∃ g cap, v = .slice (some ⟨g, 0, none⟩) n cap ∧ base ≤ g ∧ g < w.heap.size ∧ n ≤ cap ∧ cap ≤ maxLen := by
  rcases h.2 with ⟨_, hz⟩ | ⟨g, cap, cur, rfl, hg, hh, hn', hcap, _, _⟩
  · omega
  · exact ⟨g, cap, rfl, hg, (Array.getElem?_eq_some_iff.1 hh).1, hn', hcap⟩

theorem own_keep {w w1 : World} {base : Nat} {e : TypeId} {size : Nat} {v : Value} {n : Nat} {xs : List Value} (h : w.ownsRow base e size v n xs) (hb : Below w.heap.size w w1) : w1.ownsRow base e size v n xs := by
  refine h.kept (row := none) ⟨hb.os, hb.tape, hb.output, hb.size, fun k hk _ => hb.block k hk⟩ ?_
  cases v.ownBlock with
  | none => exact .inl rfl
  | some g => exact .inr (by simp)

end Go.Proofs.YtnfgedbcfclnmaaGreat
