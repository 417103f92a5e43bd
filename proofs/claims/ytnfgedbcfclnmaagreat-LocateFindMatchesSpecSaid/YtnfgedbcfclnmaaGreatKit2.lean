/- A block written cell by cell, and what lies beside it. -/
import Derived.Test.YtnfgedbcfclnmaaGreatKit
set_option linter.unusedVariables false
set_option linter.unusedSimpArgs false
namespace Go.Proofs.YtnfgedbcfclnmaaGreat
open Go.RowKit

theorem Blk.s2 {w : World} {b : Nat} {x0 x1 y0 y1 : Value} {t : TypeId} (h : Blk w b #[x0, x1] t) : Blk ((w.setCell ⟨b, 0, none⟩ y0).setCell ⟨b, 1, none⟩ y1) b #[y0, y1] t := by
  have h' := ((h.set (o := 0) y0).set (o := 1) y1)
  simpa using h'
theorem Blk.o2 {w : World} {b c : Nat} {cs : Array Value} {y0 y1 : Value} {t : TypeId} (h : Blk w c cs t) (hne : c ≠ b) : Blk ((w.setCell ⟨b, 0, none⟩ y0).setCell ⟨b, 1, none⟩ y1) c cs t := by
  exact ((h.set_other (by exact hne) y0).set_other (by exact hne) y1)
theorem Blk.s3 {w : World} {b : Nat} {x0 x1 x2 y0 y1 y2 : Value} {t : TypeId} (h : Blk w b #[x0, x1, x2] t) : Blk (((w.setCell ⟨b, 0, none⟩ y0).setCell ⟨b, 1, none⟩ y1).setCell ⟨b, 2, none⟩ y2) b #[y0, y1, y2] t := by
  have h' := (((h.set (o := 0) y0).set (o := 1) y1).set (o := 2) y2)
  simpa using h'
theorem Blk.o3 {w : World} {b c : Nat} {cs : Array Value} {y0 y1 y2 : Value} {t : TypeId} (h : Blk w c cs t) (hne : c ≠ b) : Blk (((w.setCell ⟨b, 0, none⟩ y0).setCell ⟨b, 1, none⟩ y1).setCell ⟨b, 2, none⟩ y2) c cs t := by
  exact (((h.set_other (by exact hne) y0).set_other (by exact hne) y1).set_other (by exact hne) y2)
theorem Blk.s4 {w : World} {b : Nat} {x0 x1 x2 x3 y0 y1 y2 y3 : Value} {t : TypeId} (h : Blk w b #[x0, x1, x2, x3] t) : Blk ((((w.setCell ⟨b, 0, none⟩ y0).setCell ⟨b, 1, none⟩ y1).setCell ⟨b, 2, none⟩ y2).setCell ⟨b, 3, none⟩ y3) b #[y0, y1, y2, y3] t := by
  have h' := ((((h.set (o := 0) y0).set (o := 1) y1).set (o := 2) y2).set (o := 3) y3)
  simpa using h'
theorem Blk.o4 {w : World} {b c : Nat} {cs : Array Value} {y0 y1 y2 y3 : Value} {t : TypeId} (h : Blk w c cs t) (hne : c ≠ b) : Blk ((((w.setCell ⟨b, 0, none⟩ y0).setCell ⟨b, 1, none⟩ y1).setCell ⟨b, 2, none⟩ y2).setCell ⟨b, 3, none⟩ y3) c cs t := by
  exact ((((h.set_other (by exact hne) y0).set_other (by exact hne) y1).set_other (by exact hne) y2).set_other (by exact hne) y3)
theorem Blk.s5 {w : World} {b : Nat} {x0 x1 x2 x3 x4 y0 y1 y2 y3 y4 : Value} {t : TypeId} (h : Blk w b #[x0, x1, x2, x3, x4] t) : Blk (((((w.setCell ⟨b, 0, none⟩ y0).setCell ⟨b, 1, none⟩ y1).setCell ⟨b, 2, none⟩ y2).setCell ⟨b, 3, none⟩ y3).setCell ⟨b, 4, none⟩ y4) b #[y0, y1, y2, y3, y4] t := by
  have h' := (((((h.set (o := 0) y0).set (o := 1) y1).set (o := 2) y2).set (o := 3) y3).set (o := 4) y4)
  simpa using h'
theorem Blk.o5 {w : World} {b c : Nat} {cs : Array Value} {y0 y1 y2 y3 y4 : Value} {t : TypeId} (h : Blk w c cs t) (hne : c ≠ b) : Blk (((((w.setCell ⟨b, 0, none⟩ y0).setCell ⟨b, 1, none⟩ y1).setCell ⟨b, 2, none⟩ y2).setCell ⟨b, 3, none⟩ y3).setCell ⟨b, 4, none⟩ y4) c cs t := by
  exact (((((h.set_other (by exact hne) y0).set_other (by exact hne) y1).set_other (by exact hne) y2).set_other (by exact hne) y3).set_other (by exact hne) y4)
theorem Blk.s6 {w : World} {b : Nat} {x0 x1 x2 x3 x4 x5 y0 y1 y2 y3 y4 y5 : Value} {t : TypeId} (h : Blk w b #[x0, x1, x2, x3, x4, x5] t) : Blk ((((((w.setCell ⟨b, 0, none⟩ y0).setCell ⟨b, 1, none⟩ y1).setCell ⟨b, 2, none⟩ y2).setCell ⟨b, 3, none⟩ y3).setCell ⟨b, 4, none⟩ y4).setCell ⟨b, 5, none⟩ y5) b #[y0, y1, y2, y3, y4, y5] t := by
  have h' := ((((((h.set (o := 0) y0).set (o := 1) y1).set (o := 2) y2).set (o := 3) y3).set (o := 4) y4).set (o := 5) y5)
  simpa using h'
theorem Blk.o6 {w : World} {b c : Nat} {cs : Array Value} {y0 y1 y2 y3 y4 y5 : Value} {t : TypeId} (h : Blk w c cs t) (hne : c ≠ b) : Blk ((((((w.setCell ⟨b, 0, none⟩ y0).setCell ⟨b, 1, none⟩ y1).setCell ⟨b, 2, none⟩ y2).setCell ⟨b, 3, none⟩ y3).setCell ⟨b, 4, none⟩ y4).setCell ⟨b, 5, none⟩ y5) c cs t := by
  exact ((((((h.set_other (by exact hne) y0).set_other (by exact hne) y1).set_other (by exact hne) y2).set_other (by exact hne) y3).set_other (by exact hne) y4).set_other (by exact hne) y5)

end Go.Proofs.YtnfgedbcfclnmaaGreat
