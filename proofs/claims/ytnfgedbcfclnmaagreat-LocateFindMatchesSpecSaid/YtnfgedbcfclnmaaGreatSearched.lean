/- No page is found where there is none: the laws' searched answers true. -/
import Derived.Test.YtnfgedbcfclnmaaGreatSearch
import Derived.Deep.RegionHeld3
set_option linter.unusedVariables false
set_option linter.unusedSimpArgs false
namespace Go.Proofs.YtnfgedbcfclnmaaGreat
open Go.RowKit

theorem dot_up : ∀ t, t < 8 → upI (1, 1, [255]) t = (1, 1, [255]) := by decide
theorem acc_none {u : Img} {x : Option Fr} (hu : u.1 = 1) (h : AccIs u x) : x = none := by
  obtain ⟨o, ⟨rs, h1, h2⟩, h3⟩ := h
  obtain ⟨R, s, hb, h4⟩ := h2
  have hl := h1.1
  have hc : cntF rs R s ≤ rs.length := List.countP_le_length
  have hs : 3 ≤ s := hb.1.2.1
  rcases h4 with ⟨-, h4⟩ | ⟨h4, -⟩
  · rcases h3 with ⟨-, h3⟩ | ⟨l, s', R', out, h3, -⟩
    · exact h3
    · rw [h4] at h3; cases h3
  · omega
theorem found_dot {w w' : World} {e : Ending} (h : FindRet (1, 1, [255]) w e w') : e = .returned (.tuple #[.agg #[.int .i64 0, .int .i64 0, .int .i64 0, .slice none 0 0, .slice none 0 0], .agg #[.int .i64 12, .int .i64 (-1)]]) ∧ Below w.heap.size w w' := by
  obtain ⟨xs, h1, h2⟩ := h
  have hx : accL xs 8 = [] := by
    rw [accL_congr (ys := fun _ => none) fun t ht => acc_none (by rw [dot_up t ht]) (h1 t ht)]
    rfl
  rw [hx] at h2
  exact ⟨h2.2, h2.1⟩
theorem edges_dot {o : List Int} (h : EdgesAre 1 1 [255] [-1] 3 85 o) : o = List.replicate 255 (-1) := by
  obtain ⟨h1, f, hf, h2⟩ := h
  have hf1 : f = 1 := by
    have := hf.1
    rcases Nat.lt_or_ge f 1 with g | g
    · have := hf.2.2 (by simpa using g)
      obtain rfl : f = 0 := by omega
      simp at this
    · simp at this; omega
  subst hf1
  have hl : o.length = 255 := by omega
  apply List.ext_getElem
  · rw [List.length_replicate]; exact hl
  · intro k a b
    obtain ⟨n, k1, k2, k3, k4⟩ := h2 k a
    have ht : ∀ m, tAt 1 1 [-1] (((1 : Nat) : Int) + 3) k m = false := fun m => by
      have : inB (((1 : Nat) : Int) + 3 + m) 0 (1 - 1) = false := by simp [inB]; omega
      simp only [tAt, thereB, this, Bool.false_and]
    have hn : n = 0 := by
      rcases Nat.eq_zero_or_pos n with g | g
      · exact g
      · have := (k2 0 g).1; rw [ht] at this; cases this
    rw [hn, if_neg (by omega)] at k4
    rw [List.getElem_replicate, ← k4]
    simp [List.getD, a]

theorem all85 : allN 2 = 250 := by decide +kernel

set_option maxRecDepth 100000 in
set_option maxHeartbeats 4000000 in
theorem searched_any (w : World) : Calls Tryz.prog 7 #[] w fun e w' => e = .returned (.bool true) ∧ Below w.heap.size w w' := by
  have hio : IOk (1, 1, [255]) := ⟨by decide, by decide, by decide, by decide, rfl, by simp⟩
  have HIO := Lib.hid hio
  clear hio
  go_enter Tryz.func7, Tryz.ntmps7
  go_wp2_with fail
  refine (dot_any w).mono ?_
  rintro e w1 ⟨g1, rfl, hg1, hL1, hb1⟩
  dsimp only
  go_wp2_with fail
  refine (find_any 1 1 _ _ _ [255] w1 (HIO.out.imgL hL1)).mono ?_
  intro e w2 hf
  obtain ⟨rfl, hb2⟩ := found_dot hf
  have hB2 := binto hb1 hb2
  clear hf hb1 hb2 hL1 hg1
  dsimp only
  go_wp2_with fail
  generalize hW3 : World.alloc (World.alloc w2 _) _ = W3
  have F3 : Blk W3 (w2.heap.size + 1) #[.int .i64 12, .int .i64 (-1)] 29 := by rw [← hW3]; exact Blk.newAt _ _ (by simp)
  have hs2 := hB2.size
  have hB3 : Below w.heap.size w W3 := by rw [← hW3]; exact hB2.trans (by repeat (first | (with_reducible exact Below.refl _ _) | (with_reducible assumption) | ((with_reducible refine Below.setCell ?_ ?_ _); rotate_left; (focus (first | omega | (simp; done) | (simp; omega)))) | (with_reducible refine Below.drew ?_) | (with_reducible refine below_drewN ?_ _) | ((with_reducible refine Below.alloc ?_ ?_ _); rotate_left; (focus (first | omega | (simp; done) | (simp; omega))))))
  obtain ⟨p1, hp1⟩ : ∃ p1, p1 = w2.heap.size + 1 := ⟨_, rfl⟩
  have h1l : w.heap.size < p1 := by have := hB2.size; omega
  rw [← hp1] at F3 ⊢
  clear hW3 hB2 hp1 hs2
  refine (dot_any W3).mono ?_
  rintro e w4 ⟨g4, rfl, hg4, hL4, hb4⟩
  have F4 := F3.keep hb4 F3.lt
  have hB4 := binto hB3 hb4
  clear F3 hB3 hb4
  dsimp only
  go_wp2_with fail
  refine (lefts_ok 1 1 _ _ _ _ [255] [-1] 3 85 _ (HIO.out.imgL (hL4.alloc _)) (lblk_reads (l := [-1]) (t := 3) (Blk.new _ _ _) (by decide)) rfl (by decide) ⟨by omega, by omega⟩ (.inr rfl)).mono ?_
  rintro e w5 ⟨o, hE, lv, rfl, hol, hb5⟩
  have ho := edges_dot hE
  subst ho
  rw [fillF_rep, List.length_replicate] at hol
  have hb5' := binto (below_alloc w4 _) hb5
  have F5 := F4.keep hb5' F4.lt
  have hB5 := binto hB4 hb5'
  obtain ⟨gl, cl, rfl, hgl, hgl2, hgl3, hgl4⟩ := own_some hol (by omega)
  have c5 := hol.cellAt 0 (by omega)
  have c5 : w5.cell? ⟨gl, 0, none⟩ = some (.int .i64 (-1)) := by rw [c5, List.map_replicate]; exact List.getElem?_replicate_of_lt (by omega)
  clear hE hol hb5 hb5' F4 hB4 hL4 hgl hgl3 hgl4 hg4
  dsimp only
  go_wp2_with fail
  generalize hW6 : World.alloc w5 _ = W6
  have hb6 : Below w5.heap.size w5 W6 := by rw [← hW6]; exact (by repeat (first | (with_reducible exact Below.refl _ _) | (with_reducible assumption) | ((with_reducible refine Below.setCell ?_ ?_ _); rotate_left; (focus (first | omega | (simp; done) | (simp; omega)))) | (with_reducible refine Below.drew ?_) | (with_reducible refine below_drewN ?_ _) | ((with_reducible refine Below.alloc ?_ ?_ _); rotate_left; (focus (first | omega | (simp; done) | (simp; omega))))))
  have F6 := F5.keep hb6 F5.lt
  have G6 : Blk W6 w5.heap.size #[.int .i64 0, .int .i64 0] 29 := by rw [← hW6]; exact Blk.new _ _ _
  have c6 := keep hb6 c5 hgl2
  have hB6 := binto hB5 hb6
  have hgl6 := Nat.lt_of_lt_of_le hgl2 hb6.size
  obtain ⟨p2, hp2⟩ : ∃ p2, p2 = w5.heap.size := ⟨_, rfl⟩
  have h2l : w.heap.size ≤ p2 := by have := hB5.size; omega
  rw [← hp2] at G6 ⊢
  clear hW6 hb6 F5 c5 hB5 hgl2 hp2
  refine (dot_any W6).mono ?_
  rintro e w7 ⟨g7, rfl, hg7, hL7, hb7⟩
  have F7 := F6.keep hb7 F6.lt
  have G7 := G6.keep hb7 G6.lt
  have c7 := keep hb7 c6 hgl6
  have hgl7 := Nat.lt_of_lt_of_le hgl6 hb7.size
  have hB7 := binto hB6 hb7
  clear F6 G6 c6 hgl6 hB6 hb7 hg7
  dsimp only
  go_wp2_with fail
  refine (nothing_any w7).mono ?_
  rintro e w8 ⟨tv, lv, rfl, htv, hlv, hb8⟩
  have F8 := F7.keep hb8 F7.lt
  have G8 := G7.keep hb8 G7.lt
  have c8 := keep hb8 c7 hgl7
  have hgl8 := Nat.lt_of_lt_of_le hgl7 hb8.size
  have hL8 := hL7.keep hb8 hL7.lt
  have hB8 := binto hB7 hb8
  clear F7 G7 c7 hgl7 hL7 hB7 hb8
  obtain ⟨ta, tc, rfl, -⟩ := id htv
  obtain ⟨la, lc, rfl, -⟩ := id hlv
  dsimp only
  go_wp2_with fail
  refine (agree_ok 1 1 _ _ _ [255] 0 3 85 _ _ [-1] (List.replicate 255 (-1)) w8 (HIO.out.imgL hL8) (by omega) htv hlv ⟨by omega, by omega⟩ (.inr rfl) (1, 1, [255]) (by decide) rfl (by rw [List.length_replicate]; rfl) (by decide) (by decide)).mono ?_
  rintro e w9 ⟨rfl, hb9⟩
  rw [show levN 85 = 2 from rfl, all85]
  have F9 := F8.keep hb9 F8.lt
  have G9 := G8.keep hb9 G8.lt
  have c9 := keep hb9 c8 hgl8
  have hgl9 := Nat.lt_of_lt_of_le hgl8 hb9.size
  have hB9 := binto hB8 hb9
  generalize agreeN _ _ _ _ _ _ _ = cA
  clear F8 G8 c8 hgl8 hL8 hB8 hb9 htv hlv
  dsimp only
  go_wp2_with fail
  generalize hW10 : World.alloc w9 _ = W10
  have hb10 : Below w9.heap.size w9 W10 := by rw [← hW10]; exact (by repeat (first | (with_reducible exact Below.refl _ _) | (with_reducible assumption) | ((with_reducible refine Below.setCell ?_ ?_ _); rotate_left; (focus (first | omega | (simp; done) | (simp; omega)))) | (with_reducible refine Below.drew ?_) | (with_reducible refine below_drewN ?_ _) | ((with_reducible refine Below.alloc ?_ ?_ _); rotate_left; (focus (first | omega | (simp; done) | (simp; omega))))))
  have D10 : Blk W10 w9.heap.size #[.int .i64 0, .int .i64 0] 29 := by rw [← hW10]; exact Blk.new _ _ _
  obtain ⟨a0, a1, af, alt⟩ := (F9.keep hb10 F9.lt).d2
  obtain ⟨b0, b1, bf, blt⟩ := (G9.keep hb10 G9.lt).d2
  obtain ⟨d0, d1, df, dlt⟩ := D10.d2
  have c0 := keep hb10 c9 hgl9
  have clt := Nat.lt_of_lt_of_le hgl9 hb10.size
  have hB10 := binto hB9 hb10
  have hs10 := hB10.size
  obtain ⟨p3, hp3⟩ : ∃ p3, p3 = w9.heap.size := ⟨_, rfl⟩
  rw [← hp3] at d0 d1 df dlt ⊢
  clear hW10 hb10 D10 F9 G9 c9 hgl9 hB9 hp3 h1l h2l
  go_region_held3 (fun w' => w'.cell? ⟨p1, 0, none⟩ = some (.int .i64 12) ∧ w'.cell? ⟨p1, 1, none⟩ = some (.int .i64 (-1)) ∧ w'.cell? ⟨p2, 0, none⟩ = some (.int .i64 0) ∧ w'.cell? ⟨gl, 0, none⟩ = some (.int .i64 (-1)) ∧ w'.cell? ⟨p3, 0, none⟩ = some (.int .i64 0)) (go_keep) ((go_at_call 18; refine (at_exact _ _ _).mono ?_; rintro e w' ⟨rfl, rfl⟩))
  all_goals go_wp2_with fail
  all_goals
    go_ret
    exact ⟨rfl, (by repeat (first | (with_reducible exact Below.refl _ _) | (with_reducible assumption) | ((with_reducible refine Below.setCell ?_ ?_ _); rotate_left; (focus (first | omega | (simp; done) | (simp; omega)))) | (with_reducible refine Below.drew ?_) | (with_reducible refine below_drewN ?_ _) | ((with_reducible refine Below.alloc ?_ ?_ _); rotate_left; (focus (first | omega | (simp; done) | (simp; omega))))))⟩

end Go.Proofs.YtnfgedbcfclnmaaGreat
