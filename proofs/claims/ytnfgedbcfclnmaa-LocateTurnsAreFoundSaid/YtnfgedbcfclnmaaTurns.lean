/- LocateTurnsAreFound holds: for every image and every number the law answers true, and the image reads behind the call as before. No condition. -/
import Derived.Test.YtnfgedbcfclnmaaFindF
import Derived.Test.YtnfgedbcfclnmaaTurnF
import Derived.Test.YtnfgedbcfclnmaaLeftF
import Derived.ProofKit
import Derived.Lib.SmallJoins
import Derived.ChangeOld
import Derived.Below
import Derived.Test.YtnfgedbcfclnmaaLaw1
set_option linter.unusedVariables false
set_option linter.unusedSimpArgs false

namespace Go.Proofs.Ytnfgedbcfclnmaa
open Go.RowKit

def pxAt (i : Img) (x y : Nat) : Int := i.2.2.getD (y * i.1 + x) 0
theorem img_ext {i j : Img} (hi : IOk i) (hj : IOk j) (hW : i.1 = j.1) (hH : i.2.1 = j.2.1) (h : ∀ x y, x < i.1 → y < i.2.1 → pxAt i x y = pxAt j x y) : i = j := by
  obtain ⟨W, H, px⟩ := i
  obtain ⟨W', H', qx⟩ := j
  dsimp only at hW hH
  subst hW hH
  have e : px = qx := by
    have l1 : px.length = W * H := hi.len
    have l2 : qx.length = W * H := hj.len
    apply List.ext_getElem (by omega)
    intro m h1 h2
    have hm : m < W * H := by omega
    obtain ⟨_, _, a, b, -, -⟩ := qparts hm
    have := h (m % W) (m / W) b a
    simp only [pxAt] at this
    rw [Nat.div_add_mod' m W] at this
    simpa [List.getD, h1, h2] using this
  rw [e]
theorem getD_map_range (f : Nat → Int) {n m : Nat} (h : m < n) : ((List.range n).map f).getD m 0 = f m := by
  simp [List.getD, h]
theorem at_qua {i : Img} {W H x y : Nat} (hW : i.1 = W) (hH : i.2.1 = H) (hx : x < H) (hy : y < W) : pxAt (quaI i) x y = pxAt i y (H - 1 - x) := by
  subst hW hH
  simp only [pxAt, quaI, quaL]
  rw [getD_map_range _ (qlt hy hx), quaS, (qcore hx).1, (qcore hx).2]
theorem at_mir {i : Img} {W H x y : Nat} (hW : i.1 = W) (hH : i.2.1 = H) (hx : x < W) (hy : y < H) : pxAt (mirI i) x y = pxAt i (W - 1 - x) y := by
  subst hW hH
  have hm : y * i.1 + x < i.1 * i.2.1 := by rw [Nat.mul_comm i.1]; exact qlt hy hx
  simp only [pxAt, mirI, mirL]
  rw [getD_map_range _ hm, mirS, (qcore hx).1, (qcore hx).2]

theorem qua4 {i : Img} (hi : IOk i) : quaI (quaI (quaI (quaI i))) = i := by
  have := hi.w1
  have := hi.h1
  refine img_ext hi.qua.qua.qua.qua hi rfl rfl fun x y hx hy => ?_
  replace hx : x < i.1 := hx
  replace hy : y < i.2.1 := hy
  rw [at_qua (i := quaI (quaI (quaI i))) (W := i.2.1) (H := i.1) rfl rfl hx hy, at_qua (i := quaI (quaI i)) (W := i.1) (H := i.2.1) rfl rfl hy (by omega), at_qua (i := quaI i) (W := i.2.1) (H := i.1) rfl rfl (by omega) (by omega), at_qua (i := i) (W := i.1) (H := i.2.1) rfl rfl (by omega) (by omega)]
  congr 1 <;> omega
theorem mir2 {i : Img} (hi : IOk i) : mirI (mirI i) = i := by
  have := hi.w1
  refine img_ext hi.mir.mir hi rfl rfl fun x y hx hy => ?_
  replace hx : x < i.1 := hx
  replace hy : y < i.2.1 := hy
  rw [at_mir (i := mirI i) (W := i.1) (H := i.2.1) rfl rfl hx hy, at_mir (i := i) (W := i.1) (H := i.2.1) rfl rfl (by omega) hy]
  congr 1; omega
theorem mir_qua {i : Img} (hi : IOk i) : mirI (quaI i) = quaI (quaI (quaI (mirI i))) := by
  have := hi.w1
  have := hi.h1
  refine img_ext hi.qua.mir hi.mir.qua.qua.qua rfl rfl fun x y hx hy => ?_
  replace hx : x < i.2.1 := hx
  replace hy : y < i.1 := hy
  rw [at_mir (i := quaI i) (W := i.2.1) (H := i.1) rfl rfl hx hy, at_qua (i := i) (W := i.1) (H := i.2.1) rfl rfl (by omega) hy,
    at_qua (i := quaI (quaI (mirI i))) (W := i.1) (H := i.2.1) rfl rfl hx hy, at_qua (i := quaI (mirI i)) (W := i.2.1) (H := i.1) rfl rfl hy (by omega), at_qua (i := mirI i) (W := i.1) (H := i.2.1) rfl rfl (by omega) (by omega), at_mir (i := i) (W := i.1) (H := i.2.1) rfl rfl (by omega) (by omega)]
  congr 1 <;> omega

theorem quaN_add (i : Img) (a : Nat) : ∀ b, quaN b (quaN a i) = quaN (a + b) i
  | 0 => rfl
  | b + 1 => by
    show quaI (quaN b (quaN a i)) = quaI (quaN (a + b) i)
    rw [quaN_add i a b]
theorem quaN_four {i : Img} (hi : IOk i) : ∀ k, quaN (4 * k) i = i
  | 0 => rfl
  | k + 1 => by
    rw [show 4 * (k + 1) = 4 * k + 4 by omega, ← quaN_add, quaN_four hi k]
    exact qua4 hi
theorem quaN_mod {i : Img} (hi : IOk i) (n : Nat) : quaN n i = quaN (n % 4) i := by
  have h := quaN_add i (4 * (n / 4)) (n % 4)
  rw [quaN_four hi, show 4 * (n / 4) + n % 4 = n by omega] at h
  exact h.symm
theorem quaN_eq {i : Img} (hi : IOk i) {a b : Nat} (h : a % 4 = b % 4) : quaN a i = quaN b i := by
  rw [quaN_mod hi a, quaN_mod hi b, h]
theorem mir_quaN {i : Img} (hi : IOk i) : ∀ a, mirI (quaN a i) = quaN (3 * a) (mirI i)
  | 0 => rfl
  | a + 1 => by
    show mirI (quaI (quaN a i)) = _
    rw [mir_qua (hi.quaN a), mir_quaN hi a]
    show quaN 3 (quaN (3 * a) (mirI i)) = _
    rw [quaN_add]
    rfl

/-- The composed turn. -/
def cN (s t : Nat) : Nat := (compF s t).toNat
theorem cN_val {s t : Nat} (hs : s < 8) (ht : t < 8) : cN s t = (s / 4 + t / 4) % 2 * 4 + ((if 4 ≤ t then 4 - s % 4 else s) + t) % 4 := by
  unfold cN compF
  by_cases h : 4 ≤ t
  · rw [if_pos h, if_pos (by omega)]; omega
  · rw [if_neg h, if_neg (by omega)]; omega
theorem turn_comp {i : Img} (hi : IOk i) {s t : Nat} (hs : s < 8) (ht : t < 8) : turnI (turnI i s) t = turnI i (cN s t) := by
  have hv := cN_val hs ht
  generalize cN s t = c at *
  unfold turnI
  by_cases h4 : 4 ≤ t
  · rw [if_pos h4] at hv ⊢
    by_cases h5 : 4 ≤ s
    · rw [if_pos h5, mir_quaN hi.mir, mir2 hi, quaN_add, if_neg (by omega)]
      exact quaN_eq hi (by omega)
    · rw [if_neg h5, mir_quaN hi, quaN_add, if_pos (by omega)]
      exact quaN_eq hi.mir (by omega)
  · rw [if_neg h4] at hv ⊢
    by_cases h5 : 4 ≤ s
    · rw [if_pos h5, quaN_add, if_pos (by omega)]
      exact quaN_eq hi.mir (by omega)
    · rw [if_neg h5, quaN_add, if_neg (by omega)]
      exact quaN_eq hi (by omega)

theorem c_fin : ∀ k, k < 8 → ∀ t, t < 8 → cN k t < 8 ∧ cN t (invF (cN k t : Nat)).toNat = (invF k).toNat ∧ (invF (cN k t : Nat)).toNat < 8 := by decide
theorem up_turn {i : Img} (hi : IOk i) {k t : Nat} (hk : k < 8) (ht : t < 8) : upI (turnI i t) (cN k t) = upI i k := by
  obtain ⟨h1, h2, h3⟩ := c_fin k hk t ht
  unfold upI
  rw [turn_comp hi ht h3, h2]
theorem c_perm : ∀ t, t < 8 → ((List.range 8).map fun k => cN k t).Perm (List.range 8) := by decide

theorem fm_congr {α β : Type} {f g : α → Option β} : ∀ {l : List α}, (∀ a ∈ l, f a = g a) → l.filterMap f = l.filterMap g
  | [], _ => rfl
  | a :: l, h => by
    rw [List.filterMap_cons, List.filterMap_cons, h a (by simp), fm_congr fun b hb => h b (by simp [hb])]
theorem acc_turn {i : Img} (hi : IOk i) {t : Nat} (ht : t < 8) {xs ys : Nat → Option Fr} (hx : ∀ k, k < 8 → AccIs (upI i k) (xs k)) (hy : ∀ k, k < 8 → AccIs (upI (turnI i t) k) (ys k)) :
    (accL ys 8).Perm ((accL xs 8).map fun p => (cN p.1 t, p.2)) := by
  have hyx : ∀ k, k < 8 → ys (cN k t) = xs k := fun k hk => by
    have h := hy (cN k t) (c_fin k hk t ht).1
    rw [up_turn hi hk ht] at h
    exact h.unique (hx k hk)
  unfold accL
  refine ((c_perm t ht).symm.filterMap _).trans ?_
  rw [List.filterMap_map, List.map_filterMap]
  rw [fm_congr (g := fun k => ((xs k).map fun f => (k, f)).map fun p => (cN p.1 t, p.2)) fun k hk => by
    have hk8 : k < 8 := by simpa using hk
    simp only [Function.comp]
    rw [hyx k hk8]
    cases xs k <;> rfl]

end Go.Proofs.Ytnfgedbcfclnmaa

namespace Go.Proofs.Ytnfgedbcfclnmaa
open Go.ChangeShapes Go.WideShapes Go.ChangeAt Go.RowKit Go.Joins

theorem Try.own : ownKnob Try.prog.godebug = none := by kernel_rfl
theorem Try.laidOut : laidOutB Try.prog = true := by kernel_rfl

section
variable {H : Type} {enc : TypeId × Value → H}
set_option maxRecDepth 100000 in
/-- An image that came in, opened. -/
theorem open_image {W : World} {v : Value} {d : DataW H} {p : List MemPlace} {base : Nat} (hval : Value.okWide Try.prog W .any base 24 v) (h : DataW.Trod enc Try.prog W 0 (fun _ => true) true 24 v d p) :
    ∃ (x y : Int) (a : Option Addr) (np cp : Nat) (px : List Int), v = .agg #[.int .i64 x, .int .i64 y, .slice a np cp] ∧ Reads (Value.int .u8) W (.slice a np cp) px ∧ ∀ n ∈ px, 0 ≤ n ∧ n ≤ 255 := by
  obtain ⟨c0, c1, c2, y0, y1, y2, m, rfl, -, -, hy0, hy1, hy2⟩ := open_agg3 Try.underlying24 (by kernel_rfl) (by kernel_rfl : Try.prog.cellsOf 24 = 3) hval h
  obtain ⟨x, e0, -, -⟩ := DataW.trod_int Try.underlying3 hy0
  obtain ⟨y, e1, -, -⟩ := DataW.trod_int Try.underlying3 hy1
  simp at e0 e1
  subst e0 e1
  rcases open_ints Try.underlying22 Try.underlying5 (by kernel_rfl) hy2 with ⟨hcs, _⟩ | ⟨ad, l, c, zs, hcs, _, hl, hm, hz, _, hcell, hwz⟩
  · simp at hcs
    subst hcs
    exact ⟨x, y, none, 0, 0, [], rfl, ⟨none, 0, rfl, by simp, by simp, .inl rfl⟩, by simp⟩
  · simp at hcs
    subst hcs
    have hz' : zs.length = c := by simpa using hz
    refine ⟨x, y, some ad, l, c, zs.take l, rfl, ?_, fun n hn => ?_⟩
    · rcases Nat.eq_zero_or_pos l with h0 | h0
      · subst h0
        exact ⟨_, _, rfl, by simp, hm, .inl (by simp)⟩
      · obtain ⟨b, off, spot⟩ := ad
        have hc0 := hcell 0 (by omega)
        have hspot : spot = none := by simpa [Addr.add] using World.cell?_spot hc0
        subst hspot
        have htl : (zs.take l).length = l := by simp; omega
        refine ⟨some ⟨b, off, none⟩, c, by rw [htl], by rw [htl]; exact hl, hm, .inr ⟨b, off, rfl, World.block_lt_of_cell? _ _ hc0, fun i x' hx' => ?_⟩⟩
        have hil : i < l := by have := (List.getElem?_eq_some_iff.1 hx').1; omega
        have hci := hcell i (by omega)
        rw [List.getElem?_take_of_lt hil] at hx'
        rw [List.getD, hx'] at hci
        rw [Addr.add_lit] at hci
        exact hci
    · have hw := hwz n (List.mem_of_mem_take hn)
      have hw' : (decide (0 ≤ n) && decide (n ≤ 255)) = true := hw
      simpa using hw'
end

section
variable {H : Type} {enc : TypeId × Value → H}
set_option maxRecDepth 100000 in
/-- A list of numbers that came in, opened, by the reading of its cell. -/
theorem open_list {W : World} {c2 : Value} {y2 : DataW H × List MemPlace} {m : Nat} (hy2 : DataW.trod enc Try.prog W 0 (fun _ => true) true m 25 [c2] = some y2) :
    ∃ l : List Int, Reads (Value.int .i64) W c2 l ∧ ∀ n ∈ l, -9223372036854775808 ≤ n ∧ n ≤ 9223372036854775807 := by
  rcases open_ints Try.underlying25 Try.underlying3 (by kernel_rfl) hy2 with ⟨hcs, _⟩ | ⟨ad, l, c, zs, hcs, _, hl, hm, hz, _, hcell, hwz⟩
  · simp at hcs
    subst hcs
    exact ⟨[], ⟨none, 0, rfl, by simp, by simp, .inl rfl⟩, by simp⟩
  · simp at hcs
    subst hcs
    have hz' : zs.length = c := by simpa using hz
    refine ⟨zs.take l, ?_, fun n hn => ?_⟩
    · rcases Nat.eq_zero_or_pos l with h0 | h0
      · subst h0
        exact ⟨_, _, rfl, by simp, hm, .inl (by simp)⟩
      · obtain ⟨b, off, spot⟩ := ad
        have hc0 := hcell 0 (by omega)
        have hspot : spot = none := by simpa [Addr.add] using World.cell?_spot hc0
        subst hspot
        have htl : (zs.take l).length = l := by simp; omega
        refine ⟨some ⟨b, off, none⟩, c, by rw [htl], by rw [htl]; exact hl, hm, .inr ⟨b, off, rfl, World.block_lt_of_cell? _ _ hc0, fun i x' hx' => ?_⟩⟩
        have hil : i < l := by have := (List.getElem?_eq_some_iff.1 hx').1; omega
        have hci := hcell i (by omega)
        rw [List.getElem?_take_of_lt hil] at hx'
        rw [List.getD, hx'] at hci
        rw [Addr.add_lit] at hci
        exact hci
    · have hw := hwz n (List.mem_of_mem_take hn)
      have hw' : (decide (-9223372036854775808 ≤ n) && decide (n ≤ 9223372036854775807)) = true := hw
      simpa using hw'
end

end Go.Proofs.Ytnfgedbcfclnmaa

namespace Go.Proofs.Ytnfgedbcfclnmaa
open Go.RowKit

theorem accL_mem {xs : Nat → Option Fr} {n k : Nat} {f : Fr} (h : (k, f) ∈ accL xs n) : k < n := by
  unfold accL at h
  rw [List.mem_filterMap] at h
  obtain ⟨a, h1, h2⟩ := h
  rw [Option.map_eq_some_iff] at h2
  obtain ⟨b, -, h3⟩ := h2
  injection h3 with h3 h4
  subst h3
  simpa using h1

structure L5Env (w : World) (iv : Array Value) (wx : World) : Prop where
  below : Below w.heap.size w wx
  img : Blk wx w.heap.size iv 24
theorem L5Env.keep {w wx w1 : World} {iv : Array Value} (h : L5Env w iv wx) (hb : Below wx.heap.size wx w1) : L5Env w iv w1 :=
  ⟨binto h.below hb, h.img.keep hb h.img.lt⟩

set_option maxRecDepth 100000 in
set_option maxHeartbeats 2000000 in
theorem law5_out (W H : Int) (a : Option Addr) (np cp : Nat) (t : Int) (w : World) (h : imageFaultF W H np ≠ (0, 0)) :
    Calls Try.prog 6 #[.agg #[.int .i64 W, .int .i64 H, .slice a np cp], .int .i64 t] w fun e w' => e = .returned (.bool true) ∧ Below w.heap.size w w' := by
  obtain ⟨f, hf⟩ : ∃ f, f = imageFaultF W H np := ⟨_, rfl⟩
  have hI := imageFault_any W H a np cp
  rw [← hf] at hI
  have hne : f.1 ≠ 0 := by
    rw [hf]
    rcases imageFault_cases W H np with g | g | g | g
    · exact absurd g h
    all_goals (rw [g]; decide)
  have HI := Lib.hid hI
  obtain ⟨c, k⟩ := f
  dsimp only at hne
  have hcB : (c != 0) = true := by simpa using hne
  clear hI hf h hne
  dsimp only at HI
  have hfd : ∀ (c k : Int) (w : World), (Instr.field 27 (.agg #[.int .i64 c, .int .i64 k]) 0).run Try.prog w = .ok (.int .i64 c) w := fun _ _ _ => by kernel_rfl
  go_enter Try.func6, Try.ntmps6
  go_wp2_with fail
  refine (HI.out _).mono ?_
  rintro e w1 ⟨rfl, hb1⟩
  have hB := binto (below_alloc w _) hb1
  dsimp only
  go_wp2_with fail
  refine (searched_any _).mono ?_
  rintro e w2 ⟨rfl, hb2⟩
  have hB2 := binto hB hb2
  dsimp only
  go_wp2_with fail
  go_ret
  exact ⟨rfl, hB2⟩

set_option maxRecDepth 100000 in
set_option maxHeartbeats 2000000 in
theorem law5_far (W H : Int) (a : Option Addr) (np cp : Nat) (t : Int) (w : World) (h : imageFaultF W H np = (0, 0)) (ht : inB t 0 7 = false) :
    Calls Try.prog 6 #[.agg #[.int .i64 W, .int .i64 H, .slice a np cp], .int .i64 t] w fun e w' => e = .returned (.bool true) ∧ Below w.heap.size w w' := by
  have hI := imageFault_any W H a np cp
  rw [h] at hI
  have HI := Lib.hid hI
  have HIN := Lib.hid ht
  clear hI h ht
  have hfd : ∀ (c k : Int) (w : World), (Instr.field 27 (.agg #[.int .i64 c, .int .i64 k]) 0).run Try.prog w = .ok (.int .i64 c) w := fun _ _ _ => by kernel_rfl
  go_enter Try.func6, Try.ntmps6
  go_wp2_with fail
  refine (HI.out _).mono ?_
  rintro e w1 ⟨rfl, hb1⟩
  have hB := binto (below_alloc w _) hb1
  dsimp only
  go_wp2_with (go_at_call 21; refine (in_is HIN.out _).mono ?_; rintro e w' ⟨rfl, rfl⟩)
  refine (searched_any _).mono ?_
  rintro e w2 ⟨rfl, hb2⟩
  have hB2 := binto hB hb2
  dsimp only
  go_wp2_with fail
  go_ret
  exact ⟨rfl, hB2⟩

set_option maxRecDepth 100000 in
set_option maxHeartbeats 4000000 in
theorem law5_in (W H : Nat) (a : Option Addr) (np cp : Nat) (px : List Int) (t : Nat) (w : World) (h : ImgOk w W H (.slice a np cp) px) (hf : imageFaultF W H np = (0, 0)) (ht : t < 8) :
    Calls Try.prog 6 #[.agg #[.int .i64 W, .int .i64 H, .slice a np cp], .int .i64 t] w fun e w' => e = .returned (.bool true) ∧ Below w.heap.size w w' := by
  have hI := imageFault_any W H a np cp
  rw [hf] at hI
  have HI := Lib.hid hI
  have hin : inB (t : Int) 0 7 = true := by simp only [inB, Bool.and_eq_true, decide_eq_true_eq]; omega
  have HIN := Lib.hid hin
  have HH := Lib.hid h
  have hio := h.iok
  obtain ⟨j, hj⟩ : ∃ j, j = turnI (W, H, px) t := ⟨_, rfl⟩
  have hjo : IOk j := by rw [hj]; exact hio.turn t
  have HTN := Lib.hid (fun wz hz => turn_any W H a np cp px t wz hz ht)
  rw [← hj] at HTN
  have HAT := Lib.hid (fun xs ys hx hy => acc_turn (xs := xs) (ys := ys) hio ht hx hy)
  rw [← hj] at HAT
  have HJO := Lib.hid hjo
  clear hI h hf hin hio hj hjo
  have hfd : ∀ (c k : Int) (w : World), (Instr.field 27 (.agg #[.int .i64 c, .int .i64 k]) 0).run Try.prog w = .ok (.int .i64 c) w := fun _ _ _ => by kernel_rfl
  go_enter Try.func6, Try.ntmps6
  go_wp2_with fail
  refine (HI.out _).mono ?_
  rintro e w1 ⟨rfl, hb1⟩
  have E1 : L5Env w #[.int .i64 W, .int .i64 H, .slice a np cp] w1 := ⟨binto (below_alloc w _) hb1, (Blk.new _ _ _).keep hb1 (by simp)⟩
  obtain ⟨k0, k1, k2, kf, klt⟩ := E1.img.d3
  clear hb1
  dsimp only
  go_wp2_with (go_at_call 21; refine (in_is HIN.out _).mono ?_; rintro e w' ⟨rfl, rfl⟩)
  refine (find_any W H a np cp px w1 (HH.out.below E1.below)).mono ?_
  rintro e w3 ⟨xs, hxs, hb3, hfr⟩
  have E3 := E1.keep hb3
  have HAT1 := Lib.hid (fun ys hy => HAT.out xs ys hxs hy)
  obtain ⟨acc, hacc⟩ : ∃ acc, acc = accL xs 8 := ⟨_, rfl⟩
  rw [← hacc] at hfr HAT1
  have HACC := Lib.hid hacc
  clear E1 hb3 k0 k1 k2 kf klt hxs HAT hacc
  obtain ⟨k0, k1, k2, kf, klt⟩ := E3.img.d3
  have klt1 : w.heap.size < w3.heap.size + 1 := by omega
  cases acc with
  | nil =>
    dsimp only at hfr
    subst hfr
    dsimp only
    go_wp2_with fail
    generalize hW4 : World.alloc (World.alloc w3 _) _ = W4
    have hb4 : Below w3.heap.size w3 W4 := by rw [← hW4]; exact (by repeat (first | (with_reducible exact Below.refl _ _) | (with_reducible assumption) | ((with_reducible refine Below.setCell ?_ ?_ _); rotate_left; (focus (first | omega | (simp; done) | (simp; omega)))) | (with_reducible refine Below.drew ?_) | (with_reducible refine below_drewN ?_ _) | ((with_reducible refine Below.alloc ?_ ?_ _); rotate_left; (focus (first | omega | (simp; done) | (simp; omega))))))
    have E4 := E3.keep hb4
    have D4 : Blk W4 (w3.heap.size + 1) #[.int .i64 12, .int .i64 (-1)] 27 := by rw [← hW4]; exact Blk.newAt _ _ (by simp)
    clear hW4 E3 hb4 k0 k1 k2 kf klt klt1
    refine (HTN.out W4 (HH.out.below E4.below)).mono ?_
    rintro e w5 ⟨g, rfl, hg, hL, hb5⟩
    have E5 := E4.keep hb5
    have D5 := D4.keep hb5 D4.lt
    clear E4 D4 hb5 HTN
    dsimp only
    go_wp2_with fail
    generalize hW6 : World.alloc (World.alloc w5 _) _ = W6
    have hb6 : Below w5.heap.size w5 W6 := by rw [← hW6]; exact (by repeat (first | (with_reducible exact Below.refl _ _) | (with_reducible assumption) | ((with_reducible refine Below.setCell ?_ ?_ _); rotate_left; (focus (first | omega | (simp; done) | (simp; omega)))) | (with_reducible refine Below.drew ?_) | (with_reducible refine below_drewN ?_ _) | ((with_reducible refine Below.alloc ?_ ?_ _); rotate_left; (focus (first | omega | (simp; done) | (simp; omega))))))
    have E6 := E5.keep hb6
    have D6 := D5.keep hb6 D5.lt
    have hL6 := hL.keep hb6 hL.lt
    have F6 : Blk W6 (w5.heap.size + 1) #[.int .i64 0, .int .i64 0] 27 := by rw [← hW6]; exact Blk.newAt _ _ (by simp)
    have hd5 := D5.lt
    clear hW6 E5 D5 hb6 hL hg
    refine (find_any j.1 j.2.1 _ _ _ j.2.2 W6 (HJO.out.imgL hL6)).mono ?_
    rintro e w7 ⟨ys, hys, hb7, hfr⟩
    have hp := HAT1.out ys hys
    have hres : e = .returned (.tuple #[.agg #[.int .i64 0, .int .i64 0, .int .i64 0, .slice none 0 0, .slice none 0 0], .agg #[.int .i64 12, .int .i64 (-1)]]) := by
      have : accL ys 8 = [] := by simpa using hp
      rw [this] at hfr
      exact hfr
    subst hres
    have E7 := E6.keep hb7
    obtain ⟨d0, d1, df, dlt⟩ := (D6.keep hb7 D6.lt).d2
    obtain ⟨f0, f1, ff, flt⟩ := (F6.keep hb7 F6.lt).d2
    have hB7 := E7.below
    have dlt1 : w3.heap.size + 1 < w7.heap.size + 1 := by omega
    have dlt2 : w3.heap.size + 1 < w7.heap.size + 1 + 1 := by omega
    have flt1 : w5.heap.size + 1 < w7.heap.size + 1 := by omega
    have flt2 : w5.heap.size + 1 < w7.heap.size + 1 + 1 := by omega
    clear E6 D6 F6 hL6 hys hb7 hfr hp E7
    dsimp only
    go_wp2_with fail
    refine (searched_any _).mono ?_
    rintro e w8 ⟨rfl, hb8⟩
    have hB8 : Below w.heap.size w w8 := by
      refine hB7.trans (Below.trans ?_ (hb8.mono ?_))
      · have := hB7.size
        exact (by repeat (first | (with_reducible exact Below.refl _ _) | (with_reducible assumption) | ((with_reducible refine Below.setCell ?_ ?_ _); rotate_left; (focus (first | omega | (simp; done) | (simp; omega)))) | (with_reducible refine Below.drew ?_) | (with_reducible refine below_drewN ?_ _) | ((with_reducible refine Below.alloc ?_ ?_ _); rotate_left; (focus (first | omega | (simp; done) | (simp; omega))))))
      · have := hB7.size
        simp; omega
    dsimp only
    go_wp2_with fail
    go_ret
    exact ⟨rfl, hB8⟩
  | cons x rest =>
    cases rest with
    | cons y rest =>
      dsimp only at hfr
      subst hfr
      dsimp only
      go_wp2_with fail
      generalize hW4 : World.alloc (World.alloc w3 _) _ = W4
      have hb4 : Below w3.heap.size w3 W4 := by rw [← hW4]; exact (by repeat (first | (with_reducible exact Below.refl _ _) | (with_reducible assumption) | ((with_reducible refine Below.setCell ?_ ?_ _); rotate_left; (focus (first | omega | (simp; done) | (simp; omega)))) | (with_reducible refine Below.drew ?_) | (with_reducible refine below_drewN ?_ _) | ((with_reducible refine Below.alloc ?_ ?_ _); rotate_left; (focus (first | omega | (simp; done) | (simp; omega))))))
      have E4 := E3.keep hb4
      have D4 : Blk W4 (w3.heap.size + 1) #[.int .i64 23, .int .i64 (-1)] 27 := by rw [← hW4]; exact Blk.newAt _ _ (by simp)
      clear hW4 E3 hb4 k0 k1 k2 kf klt klt1
      refine (HTN.out W4 (HH.out.below E4.below)).mono ?_
      rintro e w5 ⟨g, rfl, hg, hL, hb5⟩
      have E5 := E4.keep hb5
      have D5 := D4.keep hb5 D4.lt
      clear E4 D4 hb5 HTN
      dsimp only
      go_wp2_with fail
      generalize hW6 : World.alloc (World.alloc w5 _) _ = W6
      have hb6 : Below w5.heap.size w5 W6 := by rw [← hW6]; exact (by repeat (first | (with_reducible exact Below.refl _ _) | (with_reducible assumption) | ((with_reducible refine Below.setCell ?_ ?_ _); rotate_left; (focus (first | omega | (simp; done) | (simp; omega)))) | (with_reducible refine Below.drew ?_) | (with_reducible refine below_drewN ?_ _) | ((with_reducible refine Below.alloc ?_ ?_ _); rotate_left; (focus (first | omega | (simp; done) | (simp; omega))))))
      have E6 := E5.keep hb6
      have D6 := D5.keep hb6 D5.lt
      have hL6 := hL.keep hb6 hL.lt
      have F6 : Blk W6 (w5.heap.size + 1) #[.int .i64 0, .int .i64 0] 27 := by rw [← hW6]; exact Blk.newAt _ _ (by simp)
      have hd5 := D5.lt
      clear hW6 E5 D5 hb6 hL hg
      refine (find_any j.1 j.2.1 _ _ _ j.2.2 W6 (HJO.out.imgL hL6)).mono ?_
      rintro e w7 ⟨ys, hys, hb7, hfr⟩
      have hp := HAT1.out ys hys
      have hres : e = .returned (.tuple #[.agg #[.int .i64 0, .int .i64 0, .int .i64 0, .slice none 0 0, .slice none 0 0], .agg #[.int .i64 23, .int .i64 (-1)]]) := by
        have hlen := hp.length_eq
        generalize accL ys 8 = bcc at hfr hlen
        cases bcc with
        | nil => simp at hlen
        | cons z bcc =>
          cases bcc with
          | nil => simp at hlen
          | cons z' bcc => exact hfr
      subst hres
      have E7 := E6.keep hb7
      obtain ⟨d0, d1, df, dlt⟩ := (D6.keep hb7 D6.lt).d2
      obtain ⟨f0, f1, ff, flt⟩ := (F6.keep hb7 F6.lt).d2
      have hB7 := E7.below
      have dlt1 : w3.heap.size + 1 < w7.heap.size + 1 := by omega
      have dlt2 : w3.heap.size + 1 < w7.heap.size + 1 + 1 := by omega
      have flt1 : w5.heap.size + 1 < w7.heap.size + 1 := by omega
      have flt2 : w5.heap.size + 1 < w7.heap.size + 1 + 1 := by omega
      clear E6 D6 F6 hL6 hys hb7 hfr hp E7
      dsimp only
      go_wp2_with fail
      refine (searched_any _).mono ?_
      rintro e w8 ⟨rfl, hb8⟩
      have hB8 : Below w.heap.size w w8 := by
        refine hB7.trans (Below.trans ?_ (hb8.mono ?_))
        · have := hB7.size
          exact (by repeat (first | (with_reducible exact Below.refl _ _) | (with_reducible assumption) | ((with_reducible refine Below.setCell ?_ ?_ _); rotate_left; (focus (first | omega | (simp; done) | (simp; omega)))) | (with_reducible refine Below.drew ?_) | (with_reducible refine below_drewN ?_ _) | ((with_reducible refine Below.alloc ?_ ?_ _); rotate_left; (focus (first | omega | (simp; done) | (simp; omega))))))
        · have := hB7.size
          simp; omega
      dsimp only
      go_wp2_with fail
      go_ret
      exact ⟨rfl, hB8⟩
    | nil =>
      obtain ⟨k, l, s, R, o⟩ := x
      have hk8 : k < 8 := accL_mem (xs := xs) (n := 8) (f := (l, s, R, o)) (by rw [← HACC.out]; simp)
      dsimp only at hfr
      obtain ⟨tv, lv, rfl, htv, hlv⟩ := hfr
      have hrt := own_reads htv
      have hrl := own_reads hlv
      obtain ⟨ta, tc, rfl, -⟩ := id hrt
      obtain ⟨la, lc, rfl, -⟩ := id hrl
      obtain ⟨c, hc⟩ : ∃ c, c = cN k t := ⟨_, rfl⟩
      have hcv : compF (k : Int) (t : Int) = (c : Int) := by
        have h1 : 0 ≤ compF (k : Int) (t : Int) := by unfold compF; split <;> omega
        rw [hc, cN]; omega
      have hcm := fun wz => Compose_any k t wz ⟨by omega, by omega⟩ ⟨by omega, by omega⟩
      rw [hcv] at hcm
      have HCM := Lib.hid hcm
      have HC := Lib.hid hc
      have HRT := Lib.hid hrt
      have HRL := Lib.hid hrl
      clear hcm hcv hc htv hlv hrt hrl
      dsimp only
      go_wp2_with fail
      generalize hW4 : World.alloc (World.alloc w3 _) _ = W4
      have hb4 : Below w3.heap.size w3 W4 := by rw [← hW4]; exact (by repeat (first | (with_reducible exact Below.refl _ _) | (with_reducible assumption) | ((with_reducible refine Below.setCell ?_ ?_ _); rotate_left; (focus (first | omega | (simp; done) | (simp; omega)))) | (with_reducible refine Below.drew ?_) | (with_reducible refine below_drewN ?_ _) | ((with_reducible refine Below.alloc ?_ ?_ _); rotate_left; (focus (first | omega | (simp; done) | (simp; omega))))))
      have E4 := E3.keep hb4
      have X4 : Blk W4 w3.heap.size #[.int .i64 k, .int .i64 s, .int .i64 R, .slice ta l.length tc, .slice la o.length lc] 43 := by rw [← hW4]; exact (Blk.new _ _ _).alloc _
      have D4 : Blk W4 (w3.heap.size + 1) #[.int .i64 0, .int .i64 0] 27 := by rw [← hW4]; exact Blk.newAt _ _ (by simp)
      have hrt4 := HRT.out.below hb4
      have hrl4 := HRL.out.below hb4
      obtain ⟨p1, hp1⟩ : ∃ p1, p1 = w3.heap.size := ⟨_, rfl⟩
      rw [← hp1] at X4 D4 ⊢
      clear hW4 E3 hb4 k0 k1 k2 kf klt klt1 HRT HRL hp1
      refine (HTN.out W4 (HH.out.below E4.below)).mono ?_
      rintro e w5 ⟨g, rfl, hg, hL, hb5⟩
      have E5 := E4.keep hb5
      have X5 := X4.keep hb5 X4.lt
      have D5 := D4.keep hb5 D4.lt
      have hrt5 := hrt4.below hb5
      have hrl5 := hrl4.below hb5
      clear E4 X4 D4 hb5 HTN hrt4 hrl4
      dsimp only
      go_wp2_with fail
      generalize hW6 : World.alloc (World.alloc w5 _) _ = W6
      have hb6 : Below w5.heap.size w5 W6 := by rw [← hW6]; exact (by repeat (first | (with_reducible exact Below.refl _ _) | (with_reducible assumption) | ((with_reducible refine Below.setCell ?_ ?_ _); rotate_left; (focus (first | omega | (simp; done) | (simp; omega)))) | (with_reducible refine Below.drew ?_) | (with_reducible refine below_drewN ?_ _) | ((with_reducible refine Below.alloc ?_ ?_ _); rotate_left; (focus (first | omega | (simp; done) | (simp; omega))))))
      have E6 := E5.keep hb6
      have X6 := X5.keep hb6 X5.lt
      have D6 := D5.keep hb6 D5.lt
      have hrt6 := hrt5.below hb6
      have hrl6 := hrl5.below hb6
      have hL6 := hL.keep hb6 hL.lt
      have F6 : Blk W6 (w5.heap.size + 1) #[.int .i64 0, .int .i64 0] 27 := by rw [← hW6]; exact Blk.newAt _ _ (by simp)
      obtain ⟨p2, hp2⟩ : ∃ p2, p2 = w5.heap.size := ⟨_, rfl⟩
      rw [← hp2] at F6 ⊢
      clear hW6 E5 X5 D5 hb6 hL hg hrt5 hrl5 hp2
      refine (find_any j.1 j.2.1 _ _ _ j.2.2 W6 (HJO.out.imgL hL6)).mono ?_
      rintro e w7 ⟨ys, hys, hb7, hfr⟩
      have hp := HAT1.out ys hys
      have hacc2 : accL ys 8 = [(c, l, s, R, o)] := by
        rw [HC.out]; exact List.perm_singleton.1 hp
      rw [hacc2] at hfr
      dsimp only at hfr
      obtain ⟨tv', lv', rfl, htv, hlv⟩ := hfr
      have hrt' := own_reads htv
      have hrl' := own_reads hlv
      obtain ⟨ta', tc', rfl, -⟩ := id hrt'
      obtain ⟨la', lc', rfl, -⟩ := id hrl'
      have E7 := E6.keep hb7
      have X7 := X6.keep hb7 X6.lt
      have D7 := D6.keep hb7 D6.lt
      have F7 := F6.keep hb7 F6.lt
      have hrt7 := hrt6.below hb7
      have hrl7 := hrl6.below hb7
      have HRT' := Lib.hid hrt'
      have HRL' := Lib.hid hrl'
      obtain ⟨d0, d1, df, dlt⟩ := D7.d2
      obtain ⟨f0, f1, ff, flt⟩ := F7.d2
      obtain ⟨x0, x1, x2, x3, x4, xf, xlt⟩ := X7.d5
      have dlt1 : p1 + 1 < w7.heap.size + 1 := by omega
      have dlt2 : p1 + 1 < w7.heap.size + 1 + 1 := by omega
      have flt1 : p2 + 1 < w7.heap.size + 1 := by omega
      have flt2 : p2 + 1 < w7.heap.size + 1 + 1 := by omega
      have xlt1 : p1 < w7.heap.size + 1 := by omega
      have xlt2 : p1 < w7.heap.size + 1 + 1 := by omega
      clear E6 X6 D6 F6 hb7 hrt6 hrl6 hL6 hys hp hacc2 htv hlv hrt' hrl'
      dsimp only
      go_wp2_with fail
      generalize hW8 : World.alloc (World.alloc w7 _) _ = W8
      have hb8 : Below w7.heap.size w7 W8 := by rw [← hW8]; exact (by repeat (first | (with_reducible exact Below.refl _ _) | (with_reducible assumption) | ((with_reducible refine Below.setCell ?_ ?_ _); rotate_left; (focus (first | omega | (simp; done) | (simp; omega)))) | (with_reducible refine Below.drew ?_) | (with_reducible refine below_drewN ?_ _) | ((with_reducible refine Below.alloc ?_ ?_ _); rotate_left; (focus (first | omega | (simp; done) | (simp; omega))))))
      have E8 := E7.keep hb8
      have X8 := X7.keep hb8 X7.lt
      have Y8 : Blk W8 w7.heap.size #[.int .i64 c, .int .i64 s, .int .i64 R, .slice ta' l.length tc', .slice la' o.length lc'] 43 := by rw [← hW8]; exact (Blk.new _ _ _).alloc _
      have hrt8 := hrt7.below hb8
      have hrl8 := hrl7.below hb8
      have hrt8' := HRT'.out.below hb8
      have hrl8' := HRL'.out.below hb8
      obtain ⟨p3, hp3⟩ : ∃ p3, p3 = w7.heap.size := ⟨_, rfl⟩
      rw [← hp3] at Y8 ⊢
      clear hW8 E7 X7 D7 F7 hb8 hrt7 hrl7 HRT' HRL' hp3 d0 d1 df dlt f0 f1 ff flt x0 x1 x2 x3 x4 xf xlt dlt1 dlt2 flt1 flt2 xlt1 xlt2
      refine (HCM.out W8).mono ?_
      rintro e w9 ⟨rfl, hb9⟩
      have E9 := E8.keep hb9
      have X9 := X8.keep hb9 X8.lt
      have Y9 := Y8.keep hb9 Y8.lt
      have hrt9 := hrt8.below hb9
      have hrl9 := hrl8.below hb9
      have hrt9' := hrt8'.below hb9
      have hrl9' := hrl8'.below hb9
      obtain ⟨x0, x1, x2, x3, x4, xf, xlt⟩ := X9.d5
      obtain ⟨y0, y1, y2, y3, y4, yf, ylt⟩ := Y9.d5
      have xlt1 : p1 < w9.heap.size + 1 := by omega
      have ylt1 : p3 < w9.heap.size + 1 := by omega
      clear E8 X8 Y8 hb9 hrt8 hrl8 hrt8' hrl8' HCM
      dsimp only
      go_wp2_with fail
      generalize hW10 : World.alloc w9 _ = W10
      have hb10 : Below w9.heap.size w9 W10 := by rw [← hW10]; exact below_alloc _ _
      have E10 := E9.keep hb10
      have X10 := X9.keep hb10 X9.lt
      have Y10 := Y9.keep hb10 Y9.lt
      have hI1 := ints_any _ _ l l W10 (hrt9'.below hb10) (hrt9.below hb10)
      have hrl10 := hrl9.below hb10
      have hrl10' := hrl9'.below hb10
      rw [show decide (l = l) = true by simp] at hI1
      clear hW10 E9 X9 Y9 hb10 hrt9 hrl9 hrt9' hrl9' x0 x1 x2 x3 x4 xf xlt y0 y1 y2 y3 y4 yf ylt xlt1 ylt1
      refine hI1.mono ?_
      rintro e w11 ⟨rfl, hb11⟩
      have E11 := E10.keep hb11
      obtain ⟨x0, x1, x2, x3, x4, xf, xlt⟩ := (X10.keep hb11 X10.lt).d5
      obtain ⟨y0, y1, y2, y3, y4, yf, ylt⟩ := (Y10.keep hb11 Y10.lt).d5
      have hI2 := ints_any _ _ o o w11 (hrl10'.below hb11) (hrl10.below hb11)
      rw [show decide (o = o) = true by simp] at hI2
      clear E10 X10 Y10 hb11 hI1 hrl10 hrl10'
      dsimp only
      go_wp2_with fail
      refine hI2.mono ?_
      rintro e w12 ⟨rfl, hb12⟩
      have E12 := E11.keep hb12
      clear E11 hb12 hI2 x0 x1 x2 x3 x4 xf xlt y0 y1 y2 y3 y4 yf ylt
      dsimp only
      go_wp2_with fail
      refine (searched_any _).mono ?_
      rintro e w13 ⟨rfl, hb13⟩
      have E13 := E12.keep hb13
      have hB := E13.below
      dsimp only
      go_wp2_with fail
      go_ret
      exact ⟨rfl, hB⟩

end Go.Proofs.Ytnfgedbcfclnmaa

namespace Go.Proofs.Ytnfgedbcfclnmaa
open Go.ChangeShapes Go.WideShapes Go.ChangeAt Go.RowKit Go.Joins

theorem law5_any (W H : Int) (a : Option Addr) (np cp : Nat) (px : List Int) (t : Int) (w : World) (hr : Reads (Value.int .u8) w (.slice a np cp) px) (hb : ∀ n ∈ px, 0 ≤ n ∧ n ≤ 255) :
    Calls Try.prog 6 #[.agg #[.int .i64 W, .int .i64 H, .slice a np cp], .int .i64 t] w fun e w' => e = .returned (.bool true) ∧ Below w.heap.size w w' := by
  by_cases h : imageFaultF W H np = (0, 0)
  · cases hin : inB t 0 7 with
    | false => exact law5_far W H a np cp t w h hin
    | true =>
      have hnp : np = px.length := by obtain ⟨_, _, e, _⟩ := hr; injection e
      obtain ⟨⟨h1, h2⟩, ⟨h3, h4⟩, h5⟩ := imageFault_ok h
      simp only [inB, Bool.and_eq_true, decide_eq_true_eq] at hin
      obtain ⟨W', rfl⟩ : ∃ n : Nat, W = n := ⟨W.toNat, by omega⟩
      obtain ⟨H', rfl⟩ : ∃ n : Nat, H = n := ⟨H.toNat, by omega⟩
      obtain ⟨t', rfl⟩ : ∃ n : Nat, t = n := ⟨t.toNat, by omega⟩
      exact law5_in W' H' a np cp px t' w ⟨h1, h2, h3, h4, by rw [← hnp]; exact h5, hb, hr⟩ h (by omega)
  · exact law5_out W H a np cp t w h

set_option maxRecDepth 100000 in
theorem law5_lifted (os : Os) (started : os.Started) (H : Type) (enc : TypeId × Value → H) :
    ReturnsInHanded {} Try.checked os 6 .any (Rows.locateTurnsAreFoundSpec.pre6 enc Try.prog Try.f6 Rows.locateTurnsAreFoundRow.domain false) (Rows.locateTurnsAreFoundSpec.post enc Try.prog Try.f6 false true false false) := by
  refine returnsInHanded_of_change (C := Try.checked) Try.own started (by kernel_rfl) Try.func6
    (ChangeSpec.witness6 (enc := enc) (C := Try.checked) false ⟨#[], #[.agg #[.int .i64 0, .int .i64 0, .slice none 0 0], .int .i64 0], []⟩ 8 (by kernel_rfl) (by kernel_rfl) (by kernel_rfl) (by kernel_rfl)) ?_
  intro W base args ds gs before hval0 hW hcnd _
  have hval : ∀ (j : Nat) t v, Try.f6.params[j]? = some t → args[j]? = some v → Value.okWide Try.prog W .any base t v := hval0
  have hW' := hW
  obtain ⟨p, q, hA0, hV, rfl, hfz, hnd⟩ := hW
  have hA : DataW.TrodAll enc Try.prog W 0 (fun _ => true) true Try.f6.params.toList args.toList ds p := hA0
  rw [Try.params6] at hA hval
  obtain ⟨v0, v1, d0, d1, p0, p1, rfl, rfl, rfl, h0, h1⟩ := trodAll_two hA
  obtain ⟨rfl, rfl⟩ := trodVars_none hV
  have k0 := h0
  have lt0 : ∀ x ∈ p0, x.block < W.heap.size := by obtain ⟨m, hm⟩ := k0; exact DataW.trod_lt m _ _ _ hm
  obtain ⟨x, y, a, np, cp, px, rfl, hr, hb⟩ := open_image (hval 0 24 v0 rfl rfl) h0
  obtain ⟨t, rfl, rfl, rfl, w1⟩ := open_int Try.underlying3 (hval 1 3 v1 rfl rfl) h1
  clear hA0 hval0
  refine (law5_any x y a np cp px t W hr hb).mono fun e W' ⟨he, bel⟩ => ?_
  subst he
  exact ⟨_, rfl, _, _, _, [], _, [], hW', trodAll_mk1 (shut_bool Try.underlying4 _), trodAll_mk2 (Below.trod Try.laidOut (by kernel_rfl) (of_decide_eq_true (by kernel_rfl)) k0 bel lt0) (shut_int Try.underlying3 w1), rfl, bel.frame _, fun h => by cases h⟩

theorem turns_holds : Rows.LocateTurnsAreFoundSaid :=
  OpenClaim.holds_of_wide 6 Try.f6 rfl rfl rfl rfl rfl rfl rfl ⟨rfl, rfl, rfl, rfl, rfl⟩ rfl rfl rfl rfl rfl (by kernel_rfl) Try.func6 (by kernel_rfl)
    (of_decide_eq_true (by kernel_rfl)) (by unfold Func.isWrapper; rw [if_neg (of_decide_eq_false (by kernel_rfl))]; exact ⟨rfl, rfl⟩)
    (fun os started H enc _ => law5_lifted os started H enc)

end Go.Proofs.Ytnfgedbcfclnmaa
