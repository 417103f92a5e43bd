/- LocateColumnsMatchesSpec holds: for every image the law answers true, and the image reads behind the call as before. No condition. -/
import Derived.Test.YtnfgedbcfclnmaaLaw1
import Derived.ProofKit
import Derived.Lib.SmallJoins
import Derived.ChangeOld
import Derived.Below
namespace Go.Proofs.Ytnfgedbcfclnmaa
open Go.ChangeShapes Go.WideShapes Go.ChangeAt Go.RowKit Go.Joins

theorem Try.own : ownKnob Try.prog.godebug = none := by kernel_rfl
theorem Try.laidOut : laidOutB Try.prog = true := by kernel_rfl

theorem law1_any (W H : Int) (a : Option Addr) (np cp : Nat) (px : List Int) (w : World) (hr : Reads (Value.int .u8) w (.slice a np cp) px) (hb : ∀ n ∈ px, 0 ≤ n ∧ n ≤ 255) :
    Calls Try.prog 3 #[.agg #[.int .i64 W, .int .i64 H, .slice a np cp]] w fun e w' => e = .returned (.bool true) ∧ Below w.heap.size w w' := by
  rcases imageFault_cases W H np with h | h | h | h
  · have hnp : np = px.length := by obtain ⟨_, _, e, _⟩ := hr; injection e
    obtain ⟨⟨h1, h2⟩, ⟨h3, h4⟩, h5⟩ := imageFault_ok h
    exact law1_ok W H a np cp px w ⟨h1, h2, h3, h4, by rw [← hnp]; exact h5, hb, hr⟩ h
  · exact law1_bad1 W H a np cp w h
  · exact law1_bad2 W H a np cp w h
  · exact law1_bad3 W H a np cp w h

section
variable {H : Type} {enc : TypeId × Value → H}
set_option maxRecDepth 100000 in
/-- An image that came in, opened. -/
theorem open_image {W : World} {v : Value} {d : DataW H} {p : List MemPlace} {base : Nat} (hval : Value.okWide Try.prog W .any base 24 v) (h : DataW.Trod enc Try.prog W 0 (fun _ => true) true 24 v d p) :
    ∃ (x y : Int) (a : Option Addr) (np cp : Nat) (px : List Int), v = .agg #[.int .i64 x, .int .i64 y, .slice a np cp] ∧ Reads (Value.int .u8) W (.slice a np cp) px ∧ ∀ n ∈ px, 0 ≤ n ∧ n ≤ 255 := by
  obtain ⟨c0, c1, c2, y0, y1, y2, m, rfl, -, -, hy0, hy1, hy2⟩ := open_agg3 Try.underlying24 (by kernel_rfl) (by kernel_rfl : Try.prog.cellsOf 24 = 3) hval h
  obtain ⟨x, e0, -, -⟩ := DataW.trod_int Try.underlying3 hy0
  obtain ⟨y, e1, -, -⟩ := DataW.trod_int Try.underlying3 hy1
  simp at e0 e1
  subst e0 e1
  rcases open_ints Try.underlying22 Try.underlying5 (by kernel_rfl) hy2 with ⟨hcs, _⟩ | ⟨ad, l, c, zs, hcs, _, hl, hm, hz, _, hcell, hwz⟩
  · simp at hcs
    subst hcs
    exact ⟨x, y, none, 0, 0, [], rfl, ⟨none, 0, rfl, by simp, by simp, .inl rfl⟩, by simp⟩
  · simp at hcs
    subst hcs
    have hz' : zs.length = c := by simpa using hz
    refine ⟨x, y, some ad, l, c, zs.take l, rfl, ?_, fun n hn => ?_⟩
    · rcases Nat.eq_zero_or_pos l with h0 | h0
      · subst h0
        exact ⟨_, _, rfl, by simp, hm, .inl (by simp)⟩
      · obtain ⟨b, off, spot⟩ := ad
        have hc0 := hcell 0 (by omega)
        have hspot : spot = none := by simpa [Addr.add] using World.cell?_spot hc0
        subst hspot
        have htl : (zs.take l).length = l := by simp; omega
        refine ⟨some ⟨b, off, none⟩, c, by rw [htl], by rw [htl]; exact hl, hm, .inr ⟨b, off, rfl, World.block_lt_of_cell? _ _ hc0, fun i x' hx' => ?_⟩⟩
        have hil : i < l := by have := (List.getElem?_eq_some_iff.1 hx').1; omega
        have hci := hcell i (by omega)
        rw [List.getElem?_take_of_lt hil] at hx'
        rw [List.getD, hx'] at hci
        rw [Addr.add_lit] at hci
        exact hci
    · have hw := hwz n (List.mem_of_mem_take hn)
      have hw' : (decide (0 ≤ n) && decide (n ≤ 255)) = true := hw
      simpa using hw'
end

set_option maxRecDepth 100000 in
theorem law1_lifted (os : Os) (started : os.Started) (H : Type) (enc : TypeId × Value → H) :
    ReturnsInHanded {} Try.checked os 3 .any (Rows.locateColumnsMatchesSpecSpec.pre6 enc Try.prog Try.f3 Rows.locateColumnsMatchesSpecRow.domain false) (Rows.locateColumnsMatchesSpecSpec.post enc Try.prog Try.f3 false true false false) := by
  refine returnsInHanded_of_change (C := Try.checked) Try.own started (by kernel_rfl) Try.func3
    (ChangeSpec.witness6 (enc := enc) (C := Try.checked) false ⟨#[], #[.agg #[.int .i64 0, .int .i64 0, .slice none 0 0]], []⟩ 8 (by kernel_rfl) (by kernel_rfl) (by kernel_rfl) (by kernel_rfl)) ?_
  intro W base args ds gs before hval0 hW hcnd _
  have hval : ∀ (j : Nat) t v, Try.f3.params[j]? = some t → args[j]? = some v → Value.okWide Try.prog W .any base t v := hval0
  have hW' := hW
  obtain ⟨p, q, hA0, hV, rfl, hfz, hnd⟩ := hW
  have hA : DataW.TrodAll enc Try.prog W 0 (fun _ => true) true Try.f3.params.toList args.toList ds p := hA0
  rw [Try.params3] at hA hval
  obtain ⟨v0, d0, rfl, rfl, h0⟩ := trodAll_one hA
  obtain ⟨rfl, rfl⟩ := trodVars_none hV
  have k0 := h0
  have lt0 : ∀ x ∈ p, x.block < W.heap.size := by obtain ⟨m, hm⟩ := k0; exact DataW.trod_lt m _ _ _ hm
  obtain ⟨x, y, a, np, cp, px, rfl, hr, hb⟩ := open_image (hval 0 24 v0 rfl rfl) h0
  clear hA0 hval0
  refine (law1_any x y a np cp px W hr hb).mono fun e W' ⟨he, bel⟩ => ?_
  subst he
  exact ⟨_, rfl, _, _, _, [], p, [], hW', trodAll_mk1 (shut_bool Try.underlying4 _), trodAll_mk1 (Below.trod Try.laidOut (by kernel_rfl) (of_decide_eq_true (by kernel_rfl)) k0 bel lt0), rfl, bel.frame _, fun h => by cases h⟩

theorem columns_holds : Rows.LocateColumnsMatchesSpecSaid :=
  OpenClaim.holds_of_wide 3 Try.f3 rfl rfl rfl rfl rfl rfl rfl ⟨rfl, rfl, rfl, rfl, rfl⟩ rfl rfl rfl rfl rfl (by kernel_rfl) Try.func3 (by kernel_rfl)
    (of_decide_eq_true (by kernel_rfl)) (by unfold Func.isWrapper; rw [if_neg (of_decide_eq_false (by kernel_rfl))]; exact ⟨rfl, rfl⟩)
    (fun os started H enc _ => law1_lifted os started H enc)

#print axioms columns_holds
end Go.Proofs.Ytnfgedbcfclnmaa
