/- Slices made with a length and filled place by place. -/
import Derived.Test.YtnfgedbcfclnmaaGreatKit3
set_option linter.unusedVariables false
set_option linter.unusedSimpArgs false
namespace Go.Proofs.YtnfgedbcfclnmaaGreat
open Go.RowKit

/-- A block whose cells are a list. -/
def LBlk (w : World) (b : Nat) (l : List Value) (t : TypeId) : Prop := Blk w b l.toArray t
theorem LBlk.cell {w : World} {b : Nat} {l : List Value} {t : TypeId} (h : LBlk w b l t) {i : Nat} {v : Value} (hv : l[i]? = some v) : w.cell? ⟨b, i, none⟩ = some v := Blk.cell h (by simpa using hv)
theorem LBlk.froz {w : World} {b : Nat} {l : List Value} {t : TypeId} (h : LBlk w b l t) (o : Nat) : w.frozen? ⟨b, o, none⟩ = false := Blk.froz h o
theorem LBlk.lt {w : World} {b : Nat} {l : List Value} {t : TypeId} (h : LBlk w b l t) : b < w.heap.size := Blk.lt h
theorem LBlk.keep {B : Nat} {w w1 : World} {b : Nat} {l : List Value} {t : TypeId} (h : LBlk w b l t) (hb : Below B w w1) (hlt : b < B) : LBlk w1 b l t := Blk.keep h hb hlt
theorem LBlk.alloc {w : World} {b : Nat} {l : List Value} {t : TypeId} (h : LBlk w b l t) (o : Obj) : LBlk (w.alloc o) b l t := Blk.alloc h o
theorem LBlk.drew {w : World} {b : Nat} {l : List Value} {t : TypeId} (h : LBlk w b l t) : LBlk w.drew b l t := h
theorem LBlk.set {w : World} {b i : Nat} {l : List Value} {t : TypeId} (h : LBlk w b l t) (v : Value) : LBlk (w.setCell ⟨b, i, none⟩ v) b (l.set i v) t := by
  have := Blk.set (o := i) h v
  simpa [LBlk] using this
theorem LBlk.set_other {w : World} {b : Nat} {a : Addr} {l : List Value} {t : TypeId} (h : LBlk w b l t) (hne : b ≠ a.block) (v : Value) : LBlk (w.setCell a v) b l t := Blk.set_other h hne v
theorem LBlk.grown {w w' : World} {row : Option Nat} {b : Nat} {l : List Value} {t : TypeId} (h : LBlk w b l t) (hg : w.grownBy w' row) (hne : some b ≠ row) : LBlk w' b l t := Blk.grown h hg hne

theorem LBlk.own {w : World} {b base n : Nat} {l : List Value} {t : TypeId} (h : LBlk w b l t) (hn : l.length = n) (hb : base ≤ b) (hm : n ≤ maxLen) : w.ownsRow base t 1 (.slice (some ⟨b, 0, none⟩) n n) n l := by
  refine ⟨by omega, .inr ⟨b, n, l.toArray, rfl, hb, h, Nat.le_refl _, hm, by simp [hn], ?_⟩⟩
  simp only [List.toList_toArray, Nat.mul_one]
  rw [← hn, List.take_length]

theorem set_mid {α : Type} (A B : List α) (x y : α) : (A ++ x :: B).set A.length y = A ++ y :: B := by simp
theorem set_next {α : Type} {A : List α} {n k : Nat} {z y : α} (hA : A.length = k) (hk : k < n) : (A ++ List.replicate (n - k) z).set k y = A ++ y :: List.replicate (n - (k + 1)) z := by
  have e : n - k = (n - (k + 1)) + 1 := by omega
  rw [e, List.replicate_succ, ← hA, set_mid]

theorem wp_make1 {P : Program} (w : World) {ops : Array Oper} {rest : List Oper} {o : Oper} {a : Act} {Q : Exit → Act → World → Prop} (hgd : o.guard = none) (l c : Operand) (t : TypeId)
    (hop : o.op = Op.makeSlice t l c) (e : TypeId) (z : Value) (bytes : Nat) (ht : P.underlying t = some (.slice e)) (hinfo : (P.info? e).map (fun i => (i.zero, i.size, i.bytes)) = some (some z, 1, bytes)) (hz : z.cells = #[z]) (hby : bytes ≤ 1000)
    (L : Int) (n : Nat) (hl : a.eval l = .int .i64 L) (hc : a.eval c = .int .i64 L) (hL : L = n) (hn : n ≤ 100000000)
    (hK : wpList P ops Q rest (a.put o.dst (.slice (some ⟨w.heap.size, 0, none⟩) n n)) (w.alloc (.cells (List.replicate n z).toArray e))) :
    wpList P ops Q (o :: rest) a w := by
  obtain ⟨i, hi, hz0, hz1, hz2⟩ := info_parts hinfo
  refine wpList_plain hgd fun K hK' => ?_
  have hb : ((i.bytes : Int)) * L ≤ 281474976710656 := by
    have h1 : i.bytes * n ≤ 1000 * 100000000 := Nat.mul_le_mul (by omega) hn
    have h2 : ((i.bytes * n : Nat) : Int) = (i.bytes : Int) * L := by rw [hL]; exact Int.natCast_mul _ _
    omega
  have hr := run_make (P := P) w t e i z ht hi hz0 .i64 .i64 L L (by omega) (Int.le_refl _) hb (by omega)
  have he : madeCells z.cells (L.toNat * i.size) = (List.replicate n z).toArray := by
    have : L.toNat = n := by omega
    rw [hz1, hz, this, Nat.mul_one]
    apply Array.toList_inj.1
    rw [toList_madeCells_one]
  have hn' : L.toNat = n := by omega
  rw [he, hn'] at hr
  unfold Oper.wp
  simp only [execOp, hop, hl, hc]
  simp [hr, Result.andThen]
  exact hK' _ _ hK

/-- As PReads, the block below B. -/
def PReadsLt (B : Nat) (w : World) (v : Value) (l : List (Int × Int)) : Prop :=
  ∃ a cap, v = .slice a l.length cap ∧ l.length ≤ cap ∧ cap ≤ maxLen ∧ (l = [] ∨ ∃ b off, a = some ⟨b, off, none⟩ ∧ b < B ∧
    ∀ i p, l[i]? = some p → w.cell? ⟨b, off + i * 2, none⟩ = some (.int .i64 p.1) ∧ w.cell? ⟨b, off + i * 2 + 1, none⟩ = some (.int .i64 p.2))
theorem PReadsLt.of {w : World} {v : Value} {l : List (Int × Int)} (h : PReads w v l) : PReadsLt w.heap.size w v l := h
theorem PReadsLt.get {B : Nat} {w : World} {v : Value} {l : List (Int × Int)} (h : PReadsLt B w v l) (hB : B ≤ w.heap.size) : PReads w v l := by
  obtain ⟨a, cap, hv, h1, h2, h3⟩ := h
  refine ⟨a, cap, hv, h1, h2, ?_⟩
  rcases h3 with h3 | ⟨b, off, ha, hlt, hc⟩
  · exact .inl h3
  · exact .inr ⟨b, off, ha, Nat.lt_of_lt_of_le hlt hB, hc⟩
theorem PReadsLt.keep {B : Nat} {w w1 : World} {v : Value} {l : List (Int × Int)} (h : PReadsLt B w v l) (hb : Below B w w1) : PReadsLt B w1 v l := by
  obtain ⟨a, cap, hv, h1, h2, h3⟩ := h
  refine ⟨a, cap, hv, h1, h2, ?_⟩
  rcases h3 with h3 | ⟨b, off, ha, hlt, hc⟩
  · exact .inl h3
  · exact .inr ⟨b, off, ha, hlt, fun i x hx => ⟨_root_.Go.Proofs.YtnfgedbcfclnmaaGreat.keep hb (hc i x hx).1 hlt, _root_.Go.Proofs.YtnfgedbcfclnmaaGreat.keep hb (hc i x hx).2 hlt⟩⟩

end Go.Proofs.YtnfgedbcfclnmaaGreat
