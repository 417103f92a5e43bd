/- The walk of slices.Reverse on a part of a list of bytes. -/
import Derived.Test.YtnfgedbcfclnmaaGreatTurnA
set_option linter.unusedVariables false
set_option linter.unusedSimpArgs false
namespace Go.Proofs.YtnfgedbcfclnmaaGreat
open Go.RowKit

def revTo (l : List Int) (off n i : Nat) : List Int := (List.range l.length).map fun m => if off ≤ m ∧ m < off + n ∧ (m - off < i ∨ n - i ≤ m - off) then l.getD (off + (n - 1 - (m - off))) 0 else l.getD m 0
def revL (l : List Int) (off n : Nat) : List Int := (List.range l.length).map fun m => if off ≤ m ∧ m < off + n then l.getD (off + (n - 1 - (m - off))) 0 else l.getD m 0
theorem revTo_len (l : List Int) (off n i : Nat) : (revTo l off n i).length = l.length := by simp [revTo]
theorem revL_len (l : List Int) (off n : Nat) : (revL l off n).length = l.length := by simp [revL]
theorem revTo_get {l : List Int} {off n i m : Nat} (hm : m < l.length) : (revTo l off n i).getD m 0 = if off ≤ m ∧ m < off + n ∧ (m - off < i ∨ n - i ≤ m - off) then l.getD (off + (n - 1 - (m - off))) 0 else l.getD m 0 := by
  rw [List.getD, List.getElem?_eq_getElem (by rw [revTo_len]; exact hm)]
  simp [revTo]
theorem revTo_zero (l : List Int) (off n : Nat) : revTo l off n 0 = l := by
  apply List.ext_getElem
  · rw [revTo_len]
  · intro m h1 h2
    simp only [revTo, List.getElem_map, List.getElem_range]
    rw [if_neg (by omega)]
    simp [List.getD, h2]
theorem revTo_step {l : List Int} {off n i j : Nat} (hn : i + j + 1 = n) (hij : i < j) :
    ((revTo l off n i).set (off + i) (l.getD (off + j) 0)).set (off + j) (l.getD (off + i) 0) = revTo l off n (i + 1) := by
  apply List.ext_getElem
  · simp [revTo]
  · intro m h1 h2
    simp only [List.getElem_set, revTo, List.getElem_map, List.getElem_range]
    by_cases e1 : off + j = m
    · rw [if_pos e1, if_pos (by omega), show off + (n - 1 - (m - off)) = off + i by omega]
    · rw [if_neg e1]
      by_cases e2 : off + i = m
      · rw [if_pos e2, if_pos (by omega), show off + (n - 1 - (m - off)) = off + j by omega]
      · rw [if_neg e2]
        by_cases e3 : off ≤ m ∧ m < off + n ∧ (m - off < i ∨ n - i ≤ m - off)
        · rw [if_pos e3, if_pos (by omega)]
        · rw [if_neg e3, if_neg (by omega)]
theorem revTo_end {l : List Int} {off n i j : Nat} (hn : i + j + 1 = n) (hij : j ≤ i) : revTo l off n i = revL l off n := by
  apply List.ext_getElem
  · simp [revTo, revL]
  · intro m h1 h2
    simp only [revTo, revL, List.getElem_map, List.getElem_range]
    by_cases e : off ≤ m ∧ m < off + n
    · rw [if_pos e]
      by_cases e3 : off ≤ m ∧ m < off + n ∧ (m - off < i ∨ n - i ≤ m - off)
      · rw [if_pos e3]
      · rw [if_neg e3, show off + (n - 1 - (m - off)) = m by omega]
    · rw [if_neg e, if_neg (by omega)]

theorem grown_cell {W w : World} {g o : Nat} (h : W.grownBy w (some g)) (u : Value) : W.grownBy (w.setCell ⟨g, o, none⟩ u) (some g) :=
  h.trans ⟨rfl, rfl, rfl, by simp, fun k _ hk => heap_setCell_other w _ k u (fun e => hk (by rw [e]))⟩
theorem grown_drew {W w : World} {g : Nat} (h : W.grownBy w (some g)) : W.grownBy w.drew (some g) :=
  h.trans ⟨rfl, rfl, rfl, Nat.le_refl _, fun _ _ _ => rfl⟩
theorem grown_refl {W : World} {g : Nat} : W.grownBy W (some g) := ⟨rfl, rfl, rfl, Nat.le_refl _, fun _ _ _ => rfl⟩

set_option maxRecDepth 100000 in
set_option maxHeartbeats 4000000 in
theorem reverse_any (l : List Int) (g off n cap : Nat) (w : World) (hL : LBlk w g (l.map (Value.int .u8)) 5) (hn1 : 1 ≤ n) (hn2 : n ≤ 640) (hoff : off + n ≤ l.length) (hl : l.length ≤ 409600) :
    Calls Tryz.prog 65 #[.slice (some ⟨g, off, none⟩) n cap] w fun e w' => e = .returned (.tuple #[]) ∧ LBlk w' g ((revL l off n).map (Value.int .u8)) 5 ∧ w.grownBy w' (some g) := by
  have hglt := hL.lt
  have HL := Lib.hid hL
  clear hL
  go_enter Tryz.func65, Tryz.ntmps65
  go_wp2_with fail
  go_loopw [2, 3] (fun x y wr => ∃ i j : Nat, x = .int .i64 i ∧ y = .int .i64 j ∧ i + j + 1 = n ∧ i ≤ j + 1 ∧ LBlk wr g ((revTo l off n i).map (Value.int .u8)) 5 ∧ w.grownBy wr (some g)) (fun _ y _ => (intOf y).toNat)
  case atStart => exact ⟨0, n - 1, rfl, by congr 1; omega, by omega, by omega, by rw [revTo_zero]; exact HL.out, grown_refl⟩
  case round =>
    obtain ⟨i, j, rfl, rfl, hij, hi1, hL, hB⟩ := hrel
    obtain ⟨wb, rfl⟩ : ∃ wo : World, wo = wr := ⟨_, rfl⟩
    by_cases hlt : i < j
    · have hd1 : decide ((i : Int) < (j : Int)) = true := by simp; omega
      have hd2 : (i : Int) < (n : Int) := by omega
      have hd3 : (j : Int) < (n : Int) := by omega
      have hw1 : IntKind.i64.wrap ((j : Int) - 1) = ((j - 1 : Nat) : Int) := by rw [IntWalk.i64_in _ (by omega)]; omega
      have hil : off + i < (revTo l off n i).length := by rw [revTo_len]; omega
      have hjl : off + j < (revTo l off n i).length := by rw [revTo_len]; omega
      have c1 := hL.cell (i := off + i) (v := .int .u8 ((revTo l off n i).getD (off + i) 0)) (by rw [List.getElem?_map, getD_some (d := 0) hil]; rfl)
      have c2 := hL.cell (i := off + j) (v := .int .u8 ((revTo l off n i).getD (off + j) 0)) (by rw [List.getElem?_map, getD_some (d := 0) hjl]; rfl)
      rw [revTo_get (by omega), if_neg (by omega)] at c1 c2
      have f1 := hL.froz (off + i)
      have f2 := hL.froz (off + j)
      have hlt' := hL.lt
      have hstep := revTo_step (l := l) (off := off) hij hlt
      generalize hva : l.getD (off + i) 0 = va at *
      generalize hvb : l.getD (off + j) 0 = vb at *
      have HSTEP := Lib.hid hstep
      have HLL := Lib.hid hL
      have hne : off + i ≠ off + j := by omega
      clear hstep hva hvb hil hjl hL
      go_wp2_with fail
      go_region
      all_goals go_wp2_with fail
      all_goals
        refine ⟨⟨i + 1, j - 1, by go_num, rfl, by omega, by omega, ?_, ?_⟩, by simp [intOf]; omega⟩
        · have h9 := ((HLL.out.set (i := off + i) (.int .u8 vb)).set (i := off + j) (.int .u8 va)).drew
          rw [← List.map_set, ← List.map_set, HSTEP.out] at h9
          exact h9
        · exact grown_drew (grown_cell (grown_cell hB _) _)
    · have hd1 : decide ((i : Int) < (j : Int)) = false := by simp; omega
      rw [revTo_end hij (by omega)] at hL
      go_wp2_with fail
      exact bodyPost_end (v := .tuple #[]) (by simp [results, Tryz.results65, go_sem]) rfl ⟨rfl, hL, hB⟩

end Go.Proofs.YtnfgedbcfclnmaaGreat
