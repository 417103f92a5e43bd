/- slices.Repeat of one element. -/
import Derived.Test.YtnfgedbcfclnmaaGreatMul
import Derived.Test.YtnfgedbcfclnmaaGreatFillF
import Derived.Deep.RegionLaw
import Derived.Laws.CopyOwn
set_option linter.unusedVariables false
set_option linter.unusedSimpArgs false
namespace Go.Proofs.YtnfgedbcfclnmaaGreat
open Go.RowKit

theorem rep_splice {α : Type} (a z : α) (N m c : Nat) (h : m + c ≤ N) : splice (List.replicate m a ++ List.replicate (N - m) z) m (List.replicate c a) = List.replicate (m + c) a ++ List.replicate (N - (m + c)) z := by
  unfold splice
  have e1 : (List.replicate m a ++ List.replicate (N - m) z).take m = List.replicate m a := by
    rw [List.take_append_of_le_length (by simp), List.take_of_length_le (by simp)]
  have e2 : (List.replicate m a ++ List.replicate (N - m) z).drop (m + c) = List.replicate (N - (m + c)) z := by
    rw [List.drop_append, List.drop_of_length_le (by simp), List.nil_append, List.drop_replicate]
    congr 1; simp; omega
  rw [List.length_replicate, e1, e2, ← List.append_assoc, List.replicate_append_replicate]

/-- A fresh slice whose block is known whole. -/
def RetFresh (w : World) (l : List Value) (t : TypeId) (e : Ending) (w' : World) : Prop :=
  ∃ g, e = .returned (.slice (some ⟨g, 0, none⟩) l.length l.length) ∧ w.heap.size ≤ g ∧ LBlk w' g l t ∧ Below w.heap.size w w'

/-- The list lies in memory at an address. -/
def SrcList (w : World) (sp : Option Addr) (cs : List Value) : Prop := ∃ ad, sp = some ad ∧ ∀ (j : Nat) v, cs[j]? = some v → w.cell? (ad.add j) = some v
def CopyOk (cs : List Value) (sLen dLen off n : Nat) : Prop := cs.length = min sLen dLen ∧ off + cs.length ≤ n ∧ ∀ v ∈ cs, v.oneCell' = true

theorem wp_copyL {P : Program} {w : World} {ops : Array Oper} {rest : List Oper} {o : Oper} {a : Act} {Q : Exit → Act → World → Prop} (hgd : o.guard = none) (d s : Operand) (dT sT : TypeId)
    (ho : o.op = .call { callee := .builtin .copy, args := #[d, s], argTypes := #[dT, sT] }) (elem : TypeId) (hu : P.underlying dT = some (.slice elem)) (hsz : (P.info? elem).map (·.size) = some 1)
    (g off : Nat) (sp : Option Addr) (dLen dCap sLen sCap : Nat) (hd : a.eval d = .slice (some ⟨g, off, none⟩) dLen dCap) (hs : a.eval s = .slice sp sLen sCap)
    (l : List Value) (t : TypeId) (hg : LBlk w g l t) (cs : List Value) (hok : CopyOk cs sLen dLen off l.length) (hsrc : SrcList w sp cs) (B : Nat) (w0 : World) (hb : Below B w0 w) (hBg : B ≤ g)
    (h : ∀ w', LBlk w' g (splice l off cs) t → Below B w0 w' → wpList P ops Q rest (a.put o.dst (goInt cs.length)) w') :
    wpList P ops Q (o :: rest) a w :=
  wpList_copy_splice hgd d s dT sT ho elem hu hsz _ sp dLen dCap sLen sCap hd hs g off l t hg cs hok.1 (fun _ => ⟨rfl, hsrc⟩) hok.2.1 hok.2.2 B w0 hb hBg (fun w' h1 h2 => h w' h1.out h2)

theorem step_copyL {P : Program} {ops : Array Oper} {o : Oper} {a : Act} {w : World} {K : Act → World → Prop} {Q : Exit → Act → World → Prop} {E : Prop} (hgd : o.guard = none) (d s : Operand) (dT sT : TypeId)
    (ho : o.op = .call { callee := .builtin .copy, args := #[d, s], argTypes := #[dT, sT] }) (elem : TypeId) (hu : P.underlying dT = some (.slice elem)) (hsz : (P.info? elem).map (·.size) = some 1)
    (g off : Nat) (sp : Option Addr) (dLen dCap sLen sCap : Nat) (hd : a.eval d = .slice (some ⟨g, off, none⟩) dLen dCap) (hs : a.eval s = .slice sp sLen sCap)
    (l : List Value) (t : TypeId) (hg : LBlk w g l t) (cs : List Value) (hok : CopyOk cs sLen dLen off l.length) (hsrc : SrcList w sp cs) (B : Nat) (w0 : World) (hb : Below B w0 w) (hBg : B ≤ g)
    (h : ∀ w', LBlk w' g (splice l off cs) t → Below B w0 w' → K (a.put o.dst (goInt cs.length)) w') :
    if Region.wanted o (yielded ops a.tmps) = true then Oper.wp P o a w K Q else E :=
  step_copy_splice hgd d s dT sT ho elem hu hsz _ sp dLen dCap sLen sCap hd hs g off l t hg cs hok.1 (fun _ => ⟨rfl, hsrc⟩) hok.2.1 hok.2.2 B w0 hb hBg (fun w' h1 h2 => h w' h1.out h2)

theorem Tryz.infoI1 : (Tryz.prog.info? 3).map (·.size) = some 1 := by kernel_rfl

set_option maxRecDepth 100000 in
set_option maxHeartbeats 2000000 in
theorem repeatI {x : Int} {b : Nat} {N : Nat} {w : World} (hx : Blk w b #[.int .i64 x] 3) (hN : 1 ≤ N) (hN2 : N ≤ 1000000) :
    Calls Tryz.prog 38 #[.slice (some ⟨b, 0, none⟩) 1 1, .int .i64 N] w (RetFresh w (List.replicate N (.int .i64 x)) 3) := by
  obtain ⟨x0, xf, xlt⟩ := hx.d1
  have wN : IntKind.u64.wrap (N : Int) = N := by rw [IntKind.wrap_u64]; omega
  have gN : ¬ (9223372036854775807 : Int) < N := by omega
  have WN := Lib.hid wN
  go_enter Tryz.func38, Tryz.ntmps38
  go_wp2_with fail
  refine (mul_one' N _ ⟨by omega, by omega⟩).mono ?_
  rintro e w1 ⟨rfl, rfl⟩
  obtain ⟨W1, hW1⟩ : ∃ W1, W1 = w.alloc (.cells (List.replicate N (Value.int .i64 0)).toArray 3) := ⟨_, rfl⟩
  have hB1 : Below w.heap.size w W1 := hW1 ▸ below_alloc _ _
  have hL1 : LBlk W1 w.heap.size (List.replicate N (.int .i64 0)) 3 := hW1 ▸ Blk.new _ _ _
  have hx1 : W1.cell? ⟨b, 0, none⟩ = some (.int .i64 x) := keep hB1 x0 xlt
  have HW1 := Lib.hid hW1
  have HX1 := Lib.hid hx1
  have HL1 := Lib.hid hL1
  have HB1 := Lib.hid hB1
  clear hx1 hW1 hL1 hB1
  have Q1 : CopyOk [Value.int .i64 x] 1 N 0 (List.replicate N (Value.int .i64 0)).length := ⟨by show 1 = min 1 N; omega, by show 0 + 1 ≤ _; simp; omega, fun v hv => by simp at hv; subst hv; rfl⟩
  have Q2 : SrcList W1 (some ⟨b, 0, none⟩) [Value.int .i64 x] := ⟨_, rfl, fun j v hv => by
    cases j with
    | zero => simp at hv; subst hv; rw [Addr.add_lit]; exact HX1.out
    | succ j => simp at hv⟩
  go_wp2_with (first | (at_make; refine wp_make1 _ rfl _ _ 25 rfl 3 (.int .i64 0) 8 Tryz.underlying25 Tryz.infoInt rfl (by decide) _ N rfl rfl rfl (by omega) ?_; rw [← HW1.out]) | (refine wp_copyL rfl _ _ 25 25 rfl 3 Tryz.underlying25 Tryz.infoI1 w.heap.size 0 _ _ _ _ _ rfl rfl _ 3 HL1.out _ Q1 Q2 w.heap.size w HB1.out (Nat.le_refl _) ?_))
  intro w2 hL2 hB2
  clear Q1 Q2
  have hL2' : LBlk w2 w.heap.size (List.replicate 1 (Value.int .i64 x) ++ List.replicate (N - 1) (.int .i64 0)) 3 := by
    have h1 := rep_splice (Value.int .i64 x) (Value.int .i64 0) N 0 1 (by omega)
    simp only [List.replicate_zero, List.nil_append, Nat.sub_zero, Nat.zero_add] at h1
    have h2 := hL2
    rw [show [Value.int .i64 x] = List.replicate 1 (Value.int .i64 x) from rfl, h1] at h2
    exact h2
  clear hL2 HL1 HB1 HX1 HW1
  go_wp2_with fail
  go_loopw [8] (fun n wr => ∃ m : Nat, n = .int .i64 m ∧ 1 ≤ m ∧ m ≤ N ∧ LBlk wr w.heap.size (List.replicate m (Value.int .i64 x) ++ List.replicate (N - m) (.int .i64 0)) 3 ∧ Below w.heap.size w wr) (fun n _ => N - (intOf n).toNat)
  case atStart => exact ⟨1, by simp [goInt], Nat.le_refl _, hN, hL2', hB2⟩
  case round =>
    obtain ⟨m, rfl, hm1, hmN, hL, hB⟩ := hrel
    by_cases hlt : m < N
    · have hi1 : (0 : Int) ≤ m := by omega
      have hi2 : decide ((m : Int) ≤ (N : Int)) = true := by simp; omega
      have hne : ¬ N = m := by omega
      have hlc : LBlk wr.drew w.heap.size (List.replicate m (Value.int .i64 x) ++ List.replicate (N - m) (.int .i64 0)) 3 := hL
      have hbc : Below w.heap.size w wr.drew := hB.drew
      obtain ⟨c, hc⟩ : ∃ c, c = min m (N - m) := ⟨_, rfl⟩
      have hc1 : c ≤ m := by omega
      have hc2 : c ≤ N - m := by omega
      have hc3 : 1 ≤ c := by omega
      have Q1 : CopyOk (List.replicate c (Value.int .i64 x)) m (N - m) m (List.replicate m (Value.int .i64 x) ++ List.replicate (N - m) (Value.int .i64 0)).length := ⟨by rw [List.length_replicate, hc], by simp; omega, fun v hv => by rw [(List.mem_replicate.1 hv).2]; rfl⟩
      have Q2 : SrcList wr.drew (some ⟨w.heap.size, 0, none⟩) (List.replicate c (Value.int .i64 x)) := ⟨_, rfl, fun j v hv => by
        rw [Addr.add_lit]
        have hj : j < c := by have := (List.getElem?_eq_some_iff.1 hv).1; simpa using this
        refine hlc.cell ?_
        rw [Nat.zero_add, ← hv, List.getElem?_append_left (by rw [List.length_replicate]; exact Nat.lt_of_lt_of_le hj (hc1)), List.getElem?_replicate_of_lt (Nat.lt_of_lt_of_le hj (hc1)), List.getElem?_replicate_of_lt hj]⟩
      have hsp := rep_splice (Value.int .i64 x) (Value.int .i64 0) N m c (by omega)
      have HLC := Lib.hid hlc
      have HBC := Lib.hid hbc
      have HSP := Lib.hid hsp
      clear hL hlc hB hbc hsp hc
      go_wp2_with fail
      go_region_law (refine step_copyL rfl (.tmp 41) (.tmp 44) 25 25 rfl 3 Tryz.underlying25 Tryz.infoI1 w.heap.size m (some ⟨w.heap.size, 0, none⟩) (N - m) (N - m) m N (by simp [Act.eval, Act.put]) (by simp [Act.eval, Act.put]) _ 3 HLC.out _ Q1 Q2 w.heap.size w HBC.out (Nat.le_refl _) ?_; intro w2 hL2 hB2)
      have hL3 := HSP.out ▸ hL2
      have hwr : IntKind.i64.wrap ((m : Int) + (c : Int)) = ((m + c : Nat) : Int) := by rw [IntKind.wrap_i64] <;> omega
      simp [Act.put, goInt, hwr]
      go_wp2_with fail
      go_roundw
      case rel => exact ⟨m + c, by go_num, by omega, by omega, hL3, hB2⟩
      case measure => simp [intOf]; omega
    · obtain rfl : m = N := by omega
      have hg1 : decide ((m : Int) < (m : Int)) = false := by simp
      go_wp2_with fail
      go_ret
      refine ⟨w.heap.size, by simp, Nat.le_refl _, ?_, hB⟩
      simpa using hL

end Go.Proofs.YtnfgedbcfclnmaaGreat
