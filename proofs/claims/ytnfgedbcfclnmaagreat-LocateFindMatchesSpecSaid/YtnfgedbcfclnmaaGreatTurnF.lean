/- Images, and what turning makes of them. -/
import Derived.Test.YtnfgedbcfclnmaaGreatMirror
set_option linter.unusedVariables false
set_option linter.unusedSimpArgs false
namespace Go.Proofs.YtnfgedbcfclnmaaGreat
open Go.RowKit

/-- Width, height, pixels. -/
abbrev Img := Nat × Nat × List Int
structure IOk (i : Img) : Prop where
  w1 : 1 ≤ i.1
  w2 : i.1 ≤ 640
  h1 : 1 ≤ i.2.1
  h2 : i.2.1 ≤ 640
  len : i.2.2.length = i.1 * i.2.1
  by1 : ∀ n ∈ i.2.2, 0 ≤ n ∧ n ≤ 255
def quaI (i : Img) : Img := (i.2.1, i.1, quaL i.1 i.2.1 i.2.2)
def mirI (i : Img) : Img := (i.1, i.2.1, mirL i.1 i.2.1 i.2.2)
def quaN : Nat → Img → Img
  | 0, i => i
  | n + 1, i => quaI (quaN n i)
def turnI (i : Img) (t : Nat) : Img := quaN (t % 4) (if 4 ≤ t then mirI i else i)

theorem bytes_getD {px : List Int} (h : ∀ n ∈ px, 0 ≤ n ∧ n ≤ 255) (k : Nat) : 0 ≤ px.getD k 0 ∧ px.getD k 0 ≤ 255 := by
  rcases Nat.lt_or_ge k px.length with g | g
  · exact h _ (List.mem_of_getElem? (getD_some g))
  · simp [List.getD, g]
theorem IOk.qua {i : Img} (h : IOk i) : IOk (quaI i) :=
  ⟨h.h1, h.h2, h.w1, h.w2, by simp only [quaI, quaL_len]; exact Nat.mul_comm _ _, fun n hn => by
    simp only [quaI, quaL, List.mem_map] at hn
    obtain ⟨m, -, rfl⟩ := hn
    exact bytes_getD h.by1 _⟩
theorem IOk.mir {i : Img} (h : IOk i) : IOk (mirI i) :=
  ⟨h.w1, h.w2, h.h1, h.h2, by simp only [mirI, mirL_len], fun n hn => by
    simp only [mirI, mirL, List.mem_map] at hn
    obtain ⟨m, -, rfl⟩ := hn
    exact bytes_getD h.by1 _⟩
theorem IOk.quaN {i : Img} (h : IOk i) : ∀ n, IOk (quaN n i)
  | 0 => h
  | n + 1 => (h.quaN n).qua
theorem IOk.turn {i : Img} (h : IOk i) (t : Nat) : IOk (turnI i t) := by
  unfold turnI
  split
  · exact h.mir.quaN _
  · exact h.quaN _
theorem IOk.bound {i : Img} (h : IOk i) : 1 ≤ i.2.2.length ∧ i.2.2.length ≤ 409600 := by
  rw [h.len]
  have := Nat.mul_le_mul h.w2 h.h2
  have := Nat.mul_le_mul h.w1 h.h1
  omega
theorem IOk.img {i : Img} (h : IOk i) {w : World} {pv : Value} (hr : Reads (Value.int .u8) w pv i.2.2) : ImgOk w i.1 i.2.1 pv i.2.2 :=
  ⟨by have := h.w1; omega, by have := h.w2; omega, by have := h.h1; omega, by have := h.h2; omega, by have := h.len; rw [← Int.natCast_mul]; omega, h.by1, hr⟩
theorem bytes_reads {w : World} {g : Nat} {l : List Int} {t : TypeId} (h : LBlk w g (l.map (Value.int .u8)) t) (hm : l.length ≤ maxLen) : Reads (Value.int .u8) w (.slice (some ⟨g, 0, none⟩) l.length l.length) l :=
  ⟨_, _, rfl, Nat.le_refl _, hm, .inr ⟨g, 0, rfl, h.lt, fun i x hx => by rw [Nat.zero_add]; exact h.cell (by simp [hx])⟩⟩
theorem IOk.imgL {i : Img} (h : IOk i) {w : World} {g : Nat} (hl : LBlk w g (i.2.2.map (Value.int .u8)) 5) : ImgOk w i.1 i.2.1 (.slice (some ⟨g, 0, none⟩) i.2.2.length i.2.2.length) i.2.2 :=
  h.img (bytes_reads hl (Nat.le_trans h.bound.2 (by decide)))
theorem ImgOk.iok {w : World} {W H : Nat} {pv : Value} {px : List Int} (h : ImgOk w W H pv px) : IOk (W, H, px) :=
  ⟨by have := h.w1; simp; omega, by have := h.w2; simp; omega, by have := h.h1; simp; omega, by have := h.h2; simp; omega, by have := h.len; rw [← Int.natCast_mul] at this; simp; omega, h.by1⟩

/-- A fresh image and no fault. -/
def TurnRet (i : Img) (w : World) (e : Ending) (w' : World) : Prop :=
  ∃ g, e = .returned (.tuple #[.agg #[.int .i64 i.1, .int .i64 i.2.1, .slice (some ⟨g, 0, none⟩) i.2.2.length i.2.2.length], .agg #[.int .i64 0, .int .i64 0]]) ∧ w.heap.size ≤ g ∧ LBlk w' g (i.2.2.map (Value.int .u8)) 5 ∧ Below w.heap.size w w'

structure TuEnv (w : World) (iv : Array Value) (bO g : Nat) (j : Img) (wx : World) : Prop where
  below : Below w.heap.size w wx
  img : Blk wx w.heap.size iv 24
  res : Blk wx (w.heap.size + 1) #[.int .i64 0, .int .i64 0, .slice none 0 0] 24
  f : Blk wx (w.heap.size + 1 + 1) #[.int .i64 0, .int .i64 0] 29
  o : Blk wx bO #[.int .i64 j.1, .int .i64 j.2.1, .slice (some ⟨g, 0, none⟩) j.2.2.length j.2.2.length] 24
  px : LBlk wx g (j.2.2.map (Value.int .u8)) 5
  hO : w.heap.size + 1 + 1 < bO
  hg : w.heap.size + 1 + 1 < g
  hne : bO ≠ g

end Go.Proofs.YtnfgedbcfclnmaaGreat
