/- The walk of locate.Columns. -/
import Derived.Test.YtnfgedbcfclnmaaGreatCols
import Derived.Test.YtnfgedbcfclnmaaGreatScan
import Derived.Test.YtnfgedbcfclnmaaGreatValid
import Derived.Test.YtnfgedbcfclnmaaGreatPRows
import Derived.Test.YtnfgedbcfclnmaaGreatRep
import Derived.Test.YtnfgedbcfclnmaaGreatFill
import Derived.Deep.RegionHeld3
import Derived.Deep.DeepCutAuto
import Derived.Deep.CutBlock
set_option linter.unusedVariables false
set_option linter.unusedSimpArgs false
namespace Go.Proofs.YtnfgedbcfclnmaaGreat
open Go.RowKit

theorem Tryz.infoCol : (Tryz.prog.info? 67).map (fun i => (i.zero, i.size, i.bytes)) = some (some (.agg #[.int .i64 0, .int .i64 0, .int .i64 0, .int .i64 0]), 4, 32) := by kernel_rfl

theorem made4 (n : Nat) : (madeCells (Value.agg #[.int .i64 0, .int .i64 0, .int .i64 0, .int .i64 0]).cells (n * 4)).toList = List.replicate (n * 4) (.int .i64 0) := by
  have hc : (Value.agg #[.int .i64 0, .int .i64 0, .int .i64 0, .int .i64 0]).cells = #[.int .i64 0, .int .i64 0, .int .i64 0, .int .i64 0] := by kernel_rfl
  rw [hc]
  apply List.ext_getElem
  · simp [size_madeCells]
  · intro i h1 h2
    simp [madeCells]
    have : i % 4 = 0 ∨ i % 4 = 1 ∨ i % 4 = 2 ∨ i % 4 = 3 := by omega
    rcases this with g | g | g | g <;> simp [g]

theorem wp_make4 {P : Program} (w : World) {ops : Array Oper} {rest : List Oper} {o : Oper} {a : Act} {Q : Exit → Act → World → Prop} (hgd : o.guard = none) (l c : Operand) (t : TypeId)
    (hop : o.op = Op.makeSlice t l c) (e : TypeId) (bytes : Nat) (ht : P.underlying t = some (.slice e)) (hinfo : (P.info? e).map (fun i => (i.zero, i.size, i.bytes)) = some (some (.agg #[.int .i64 0, .int .i64 0, .int .i64 0, .int .i64 0]), 4, bytes)) (hby : bytes ≤ 1000)
    (L : Int) (n : Nat) (hl : a.eval l = .int .i64 L) (hc : a.eval c = .int .i64 L) (hL : L = n) (hn : n ≤ 100000000)
    (hK : wpList P ops Q rest (a.put o.dst (.slice (some ⟨w.heap.size, 0, none⟩) n n)) (w.alloc (.cells (List.replicate (n * 4) (Value.int .i64 0)).toArray e))) :
    wpList P ops Q (o :: rest) a w := by
  obtain ⟨i, hi, hz0, hz1, hz2⟩ := info_parts hinfo
  refine wpList_plain hgd fun K hK' => ?_
  have hb : ((i.bytes : Int)) * L ≤ 281474976710656 := by
    have h1 : i.bytes * n ≤ 1000 * 100000000 := Nat.mul_le_mul (by omega) hn
    have h2 : ((i.bytes * n : Nat) : Int) = (i.bytes : Int) * L := by rw [hL]; exact Int.natCast_mul _ _
    omega
  have hr := run_make (P := P) w t e i _ ht hi hz0 .i64 .i64 L L (by omega) (Int.le_refl _) hb (by omega)
  have hn' : L.toNat = n := by omega
  have he : madeCells (Value.agg #[.int .i64 0, .int .i64 0, .int .i64 0, .int .i64 0]).cells (L.toNat * i.size) = (List.replicate (n * 4) (Value.int .i64 0)).toArray := by
    rw [hz1, hn']
    apply Array.toList_inj.1
    rw [made4]
  rw [he, hn'] at hr
  unfold Oper.wp
  simp only [execOp, hop, hl, hc]
  simp [hr, Result.andThen]
  exact hK' _ _ hK

/-- A list of four cells an element, written so far. -/
structure ColBlk (w : World) (g n : Nat) (rs : List (Int × Int × Int × Int)) : Prop where
  blk : ∃ cs : List Value, LBlk w g cs 67 ∧ cs.length = n * 4 ∧ (∀ i, i < n * 4 → ∃ v : Int, cs[i]? = some (.int .i64 v))
  at' : ColsAt w g rs

theorem ColBlk.set {w : World} {g n k : Nat} {rs : List (Int × Int × Int × Int)} {r : Int × Int × Int × Int} (h : ColBlk w g n rs) (hk : rs.length = k) (hkn : k < n) :
    ColBlk ((((w.setCell ⟨g, k * 4, none⟩ (.int .i64 (scanOf r).1)).setCell ⟨g, k * 4 + 1, none⟩ (.int .i64 (scanOf r).2.1)).setCell ⟨g, k * 4 + 2, none⟩ (.int .i64 (scanOf r).2.2.1)).setCell ⟨g, k * 4 + 3, none⟩ (.int .i64 (scanOf r).2.2.2)) g n (rs ++ [r]) := by
  obtain ⟨⟨cs, hb, hl, hv⟩, ha⟩ := h
  have hb2 := (((hb.set (i := k * 4) (.int .i64 (scanOf r).1)).set (i := k * 4 + 1) (.int .i64 (scanOf r).2.1)).set (i := k * 4 + 2) (.int .i64 (scanOf r).2.2.1)).set (i := k * 4 + 3) (.int .i64 (scanOf r).2.2.2)
  refine ⟨⟨_, hb2, by simp [hl], fun i hi => ?_⟩, fun i x hx => ?_⟩
  · obtain ⟨v, hv⟩ := hv i hi
    simp only [List.getElem?_set, List.length_set, hl, hv]
    repeat' (first | (split; skip) | exact ⟨_, rfl⟩ | omega)
  · have hsz : ∀ j, j < 4 → k * 4 + j < cs.length := fun j hj => by omega
    rcases Nat.lt_or_ge i rs.length with g' | g'
    · rw [List.getElem?_append_left g'] at hx
      obtain ⟨a, b, c, d⟩ := ha i x hx
      have hc : ∀ o v, w.cell? ⟨g, o, none⟩ = some v → cs[o]? = some v := fun o v ho => by
        have hb' : w.heap[g]? = some (.cells cs.toArray 67 (0, 0)) := hb
        simpa [World.cell?, hb'] using ho
      have e : ∀ o v, o < k * 4 → w.cell? ⟨g, o, none⟩ = some v → ((((cs.set (k * 4) (Value.int .i64 (scanOf r).1)).set (k * 4 + 1) (.int .i64 (scanOf r).2.1)).set (k * 4 + 2) (.int .i64 (scanOf r).2.2.1)).set (k * 4 + 3) (.int .i64 (scanOf r).2.2.2))[o]? = some v := fun o v ho hv => by
        rw [List.getElem?_set_ne (by omega), List.getElem?_set_ne (by omega), List.getElem?_set_ne (by omega), List.getElem?_set_ne (by omega)]
        exact hc o v hv
      exact ⟨hb2.cell (e _ _ (by omega) a), hb2.cell (e _ _ (by omega) b), hb2.cell (e _ _ (by omega) c), hb2.cell (e _ _ (by omega) d)⟩
    · have hi : i = k := by
        have := (List.getElem?_eq_some_iff.1 hx).1
        simp at this; omega
      subst hi
      have hxr : x = r := by
        rw [List.getElem?_append_right g', hk] at hx
        simpa using hx.symm
      subst hxr
      refine ⟨hb2.cell ?_, hb2.cell ?_, hb2.cell ?_, hb2.cell ?_⟩
      · rw [List.getElem?_set_ne (by omega), List.getElem?_set_ne (by omega), List.getElem?_set_ne (by omega), List.getElem?_set_self (by omega)]
      · rw [List.getElem?_set_ne (by omega), List.getElem?_set_ne (by omega), List.getElem?_set_self (by simp; omega)]
      · rw [List.getElem?_set_ne (by omega), List.getElem?_set_self (by simp; omega)]
      · rw [List.getElem?_set_self (by simp; omega)]

/-- What Columns returns. -/
def ColRet (W H : Int) (px : List Int) (w : World) (e : Ending) (w' : World) : Prop :=
  ∃ rs o, StList W H px rs ∧ ColsIs rs o ∧ Below w.heap.size w w' ∧
    match o with
    | none => e = .returned (.tuple #[.slice none 0 0, .int .i64 0, .int .i64 0, .agg #[.int .i64 12, .int .i64 (-1)]])
    | some (l, s, R) => ∃ v, e = .returned (.tuple #[v, .int .i64 s, .int .i64 R, .agg #[.int .i64 0, .int .i64 0]]) ∧ w'.ownsRow w.heap.size 3 1 v l.length (l.map (Value.int .i64))

theorem imageFaultF_ok {W H : Int} {n : Nat} (h1 : 1 ≤ W) (h2 : W ≤ 640) (h3 : 1 ≤ H) (h4 : H ≤ 640) (hn : (n : Int) = W * H) : imageFaultF W H n = (0, 0) := by
  have a : inB W 1 640 = true := by simp [inB]; omega
  have b : inB H 1 640 = true := by simp [inB]; omega
  simp [imageFaultF, a, b, hn]

/-- The blocks of Columns. -/
structure ColEnv (w : World) (W H : Int) (pv : Value) (g n : Nat) (wx : World) : Prop where
  below : Below w.heap.size w wx
  img : Blk wx w.heap.size #[.int .i64 W, .int .i64 H, pv] 24
  res : Blk wx (w.heap.size + 1) #[.int .i64 0, .int .i64 0] 29
  lt : w.heap.size + 1 < g
theorem ColEnv.keep {w wx w1 : World} {W H : Int} {pv : Value} {g n : Nat} (h : ColEnv w W H pv g n wx) (hb : Below wx.heap.size wx w1) : ColEnv w W H pv g n w1 :=
  ⟨binto h.below hb, h.img.keep hb h.img.lt, h.res.keep hb h.res.lt, h.lt⟩

theorem ColEnv.set {w wx : World} {W H : Int} {pv : Value} {g n o : Nat} (h : ColEnv w W H pv g n wx) (v : Value) : ColEnv w W H pv g n (wx.setCell ⟨g, o, none⟩ v) := by
  have hg := h.lt
  exact ⟨h.below.setCell (p := ⟨g, o, none⟩) (by show w.heap.size ≤ g; omega) v, h.img.set_other (by show w.heap.size ≠ g; omega) v, h.res.set_other (by show w.heap.size + 1 ≠ g; omega) v, hg⟩
theorem ColEnv.set' {w wx : World} {W H : Int} {pv : Value} {g n : Nat} (h : ColEnv w W H pv g n wx) {p : Addr} (hp : g < p.block) (v : Value) : ColEnv w W H pv g n (wx.setCell p v) := by
  have hg := h.lt
  exact ⟨h.below.setCell (by omega) v, h.img.set_other (by omega) v, h.res.set_other (by omega) v, hg⟩
theorem ColBlk.lt {w : World} {g n : Nat} {rs : List (Int × Int × Int × Int)} (h : ColBlk w g n rs) : g < w.heap.size := by
  obtain ⟨⟨cs, hb, -⟩, -⟩ := h; exact hb.lt
theorem ColBlk.keep {B g n : Nat} {w w1 : World} {rs : List (Int × Int × Int × Int)} (h : ColBlk w g n rs) (hb : Below B w w1) (hg : g < B) : ColBlk w1 g n rs := by
  obtain ⟨⟨cs, h1, h2, h3⟩, ha⟩ := h
  exact ⟨⟨cs, h1.keep hb hg, h2, h3⟩, ha.keep hb hg⟩
theorem ColBlk.get {w : World} {g n k : Nat} {rs : List (Int × Int × Int × Int)} (h : ColBlk w g n rs) (hk : k < n) :
    (∃ v : Int, w.cell? ⟨g, k * 4, none⟩ = some (.int .i64 v)) ∧ (∃ v : Int, w.cell? ⟨g, k * 4 + 1, none⟩ = some (.int .i64 v)) ∧ (∃ v : Int, w.cell? ⟨g, k * 4 + 2, none⟩ = some (.int .i64 v)) ∧ (∃ v : Int, w.cell? ⟨g, k * 4 + 3, none⟩ = some (.int .i64 v)) ∧ ∀ o, w.frozen? ⟨g, o, none⟩ = false := by
  obtain ⟨⟨cs, h1, h2, h3⟩, ha⟩ := h
  refine ⟨?_, ?_, ?_, ?_, fun o => h1.froz o⟩
  · obtain ⟨v, hv⟩ := h3 (k * 4) (by omega); exact ⟨v, h1.cell hv⟩
  · obtain ⟨v, hv⟩ := h3 (k * 4 + 1) (by omega); exact ⟨v, h1.cell hv⟩
  · obtain ⟨v, hv⟩ := h3 (k * 4 + 2) (by omega); exact ⟨v, h1.cell hv⟩
  · obtain ⟨v, hv⟩ := h3 (k * 4 + 3) (by omega); exact ⟨v, h1.cell hv⟩

/-- The blocks of the search. -/
structure Col2 (w : World) (W H : Int) (pv : Value) (g n : Nat) (rs : List (Int × Int × Int × Int)) (ps gl : Nat) (s R : Int) (wx : World) : Prop where
  e : ColEnv w W H pv g n wx
  c : ColBlk wx g n rs
  s : Blk wx ps #[.int .i64 s] 3
  r : Blk wx (ps + 1) #[.int .i64 R] 3
  p0 : wx.cell? ⟨gl, 0, none⟩ = some (.int .i64 53)
  p1 : wx.cell? ⟨gl, 1, none⟩ = some (.int .i64 85)
  h1 : g < ps
  h2 : ps + 1 < gl
  h3 : gl < wx.heap.size
theorem Col2.keep {w wx w1 : World} {W H : Int} {pv : Value} {g n ps gl : Nat} {rs : List (Int × Int × Int × Int)} {s R : Int} (h : Col2 w W H pv g n rs ps gl s R wx) (hb : Below wx.heap.size wx w1) : Col2 w W H pv g n rs ps gl s R w1 :=
  ⟨h.e.keep hb, h.c.keep hb h.c.lt, h.s.keep hb h.s.lt, h.r.keep hb h.r.lt, _root_.Go.Proofs.YtnfgedbcfclnmaaGreat.keep hb h.p0 h.h3, _root_.Go.Proofs.YtnfgedbcfclnmaaGreat.keep hb h.p1 h.h3, h.h1, h.h2, Nat.lt_of_lt_of_le h.h3 hb.size⟩
theorem setO {w : World} {a p : Addr} {v u : Value} (h : w.cell? p = some u) (hne : p.block ≠ a.block) : (w.setCell a v).cell? p = some u := by
  have := Below.heap_setCell w a v p.block hne
  unfold World.cell? at *; rw [this]; exact h
theorem Col2.set {w wx : World} {W H : Int} {pv : Value} {g n ps gl : Nat} {rs : List (Int × Int × Int × Int)} {s R : Int} (h : Col2 w W H pv g n rs ps gl s R wx) (s' R' : Int) : Col2 w W H pv g n rs ps gl s' R' ((wx.setCell ⟨ps, 0, none⟩ (.int .i64 s')).setCell ⟨ps + 1, 0, none⟩ (.int .i64 R')) := by
  have h1 := h.h1
  have h2 := h.h2
  have h3 := h.h3
  have hb : Below ps wx ((wx.setCell ⟨ps, 0, none⟩ (.int .i64 s')).setCell ⟨ps + 1, 0, none⟩ (.int .i64 R')) := ((Below.refl _ _).setCell (by simp) _).setCell (by simp) _
  refine ⟨(h.e.set' (by simp; omega) _).set' (by simp; omega) _, h.c.keep hb h1, ?_, ?_, setO (setO h.p0 (by simp; omega)) (by simp; omega), setO (setO h.p1 (by simp; omega)) (by simp; omega), h1, h2, by simpa using h3⟩
  · exact ((h.s.set (o := 0) (.int .i64 s')).set_other (by simp) _)
  · exact ((h.r.set_other (by simp) _).set (o := 0) (.int .i64 R'))

theorem Col2.other {w wx : World} {W H : Int} {pv : Value} {g n ps gl : Nat} {rs : List (Int × Int × Int × Int)} {s R : Int} (h : Col2 w W H pv g n rs ps gl s R wx) {p : Addr} (hp : gl < p.block) (v : Value) : Col2 w W H pv g n rs ps gl s R (wx.setCell p v) := by
  have h1 := h.h1
  have h2 := h.h2
  have h3 := h.h3
  have hb : Below (gl + 1) wx (wx.setCell p v) := (Below.refl _ _).setCell (by omega) _
  exact ⟨h.e.set' (by omega) _, h.c.keep hb (by omega), h.s.keep hb (by omega), h.r.keep hb (by omega), _root_.Go.Proofs.YtnfgedbcfclnmaaGreat.keep hb h.p0 (by omega), _root_.Go.Proofs.YtnfgedbcfclnmaaGreat.keep hb h.p1 (by omega), h1, h2, by simpa using h3⟩
theorem Col2.keepB {w wx w1 : World} {W H : Int} {pv : Value} {g n ps gl : Nat} {rs : List (Int × Int × Int × Int)} {s R : Int} (h : Col2 w W H pv g n rs ps gl s R wx) (hb : Below (gl + 1) wx w1) : Col2 w W H pv g n rs ps gl s R w1 := by
  have h1 := h.h1
  have h2 := h.h2
  have h3 := h.h3
  have h4 := h.e.lt
  exact ⟨⟨h.e.below.trans (hb.mono (by omega)), h.e.img.keep hb (by omega), h.e.res.keep hb (by omega), h4⟩, h.c.keep hb (by omega), h.s.keep hb (by omega), h.r.keep hb (by omega), _root_.Go.Proofs.YtnfgedbcfclnmaaGreat.keep hb h.p0 (by omega), _root_.Go.Proofs.YtnfgedbcfclnmaaGreat.keep hb h.p1 (by omega), h1, h2, Nat.lt_of_lt_of_le h.h3 hb.size⟩
theorem Col2.drew {w wx : World} {W H : Int} {pv : Value} {g n ps gl : Nat} {rs : List (Int × Int × Int × Int)} {s R : Int} (h : Col2 w W H pv g n rs ps gl s R wx) : Col2 w W H pv g n rs ps gl s R wx.drew := h.keep (Below.refl _ _).drew
theorem LBlk.setI {w : World} {g x k : Nat} {f : Nat → Int} {l : List Int} {t : TypeId} (h : LBlk w g ((tabF k f).map (Value.int .i64)) t) (v : Int) (hl : (tabF k f).set x v = l) : LBlk (w.setCell ⟨g, x, none⟩ (.int .i64 v)) g (l.map (Value.int .i64)) t := by
  have := h.set (i := x) (.int .i64 v)
  rw [← hl, List.map_set]; exact this
theorem LBlk.getI {w : World} {g x k : Nat} {f : Nat → Int} {t : TypeId} (h : LBlk w g ((tabF k f).map (Value.int .i64)) t) (hx : x < k) : w.cell? ⟨g, x, none⟩ = some (.int .i64 (f x)) :=
  h.cell (by rw [List.getElem?_map, tabF_get f hx]; rfl)

set_option maxRecDepth 100000 in
set_option maxHeartbeats 4000000 in
theorem columns_any (W H : Int) (a : Option Addr) (np cp : Nat) (px : List Int) (w : World) (h : ImgOk w W H (.slice a np cp) px) :
    Calls Tryz.prog 13 #[.agg #[.int .i64 W, .int .i64 H, .slice a np cp]] w (ColRet W H px w) := by
  have h1 := h.w1
  have h2 := h.w2
  have h3 := h.h1
  have h4 := h.h2
  obtain ⟨n, hWn⟩ : ∃ n : Nat, W = n := ⟨W.toNat, by omega⟩
  have hnp : np = px.length := by obtain ⟨_, _, e, _⟩ := h.rd; injection e
  have hV := validate_any W H a np cp
  rw [imageFaultF_ok h1 h2 h3 h4 (by rw [hnp]; exact h.len)] at hV
  have hV := Lib.hid hV
  subst hWn
  have hmf : ∀ (fn : Fn) (first cap : Array Value) (w : World), (Instr.makeFunc fn first cap).run Tryz.prog w = .ok (.func fn first cap) w := fun _ _ _ _ => rfl
  have HMF := Lib.hid hmf
  clear hmf hnp
  go_enter Tryz.func13, Tryz.ntmps13
  go_wp2_with fail
  generalize hW0 : World.alloc (World.alloc w _) _ = W0
  have s0 : W0.heap.size = w.heap.size + 1 + 1 := by rw [← hW0]; simp
  have K0 : Blk W0 w.heap.size #[.int .i64 n, .int .i64 H, .slice a np cp] 24 := by rw [← hW0]; exact (Blk.new _ _ _).alloc _
  have R0 : Blk W0 (w.heap.size + 1) #[.int .i64 0, .int .i64 0] 29 := by rw [← hW0]; exact Blk.newAt _ _ (by simp)
  have hB0 : Below w.heap.size w W0 := by rw [← hW0]; exact (by repeat (first | (with_reducible exact Below.refl _ _) | (with_reducible assumption) | ((with_reducible refine Below.setCell ?_ ?_ _); rotate_left; (focus (first | omega | (simp; done) | (simp; omega)))) | (with_reducible refine Below.drew ?_) | (with_reducible refine below_drewN ?_ _) | ((with_reducible refine Below.alloc ?_ ?_ _); rotate_left; (focus (first | omega | (simp; done) | (simp; omega))))))
  clear hW0
  refine (hV.out W0).mono ?_
  rintro e w1 ⟨rfl, hb1⟩
  have K1 := K0.keep hb1 K0.lt
  have R1 := R0.keep hb1 R0.lt
  have hB1 := binto hB0 hb1
  have hs1 := hb1.size
  obtain ⟨k0, k1, k2, kf, klt⟩ := K1.d3
  have rlt := R1.lt
  clear K0 R0 hB0 hb1 hV
  go_wp2_with (at_make; refine wp_make4 _ rfl _ _ 65 rfl 67 32 Tryz.underlying65 Tryz.infoCol (by decide) _ n rfl rfl rfl (by omega) ?_)
  generalize hW2 : World.alloc (World.alloc w1 _) _ = W2
  have C2 : ColBlk W2 (w1.heap.size + 1) n [] := by
    rw [← hW2]
    refine ⟨⟨_, Blk.newAt _ _ (by simp), by simp, fun i hi => ⟨0, by simp [hi]⟩⟩, fun i r hr => by simp at hr⟩
  have E2 : ColEnv w n H (.slice a np cp) (w1.heap.size + 1) n W2 := by
    rw [← hW2]
    exact ⟨hB1.trans (by repeat (first | (with_reducible exact Below.refl _ _) | (with_reducible assumption) | ((with_reducible refine Below.setCell ?_ ?_ _); rotate_left; (focus (first | omega | (simp; done) | (simp; omega)))) | (with_reducible refine Below.drew ?_) | (with_reducible refine below_drewN ?_ _) | ((with_reducible refine Below.alloc ?_ ?_ _); rotate_left; (focus (first | omega | (simp; done) | (simp; omega)))))), (K1.alloc _).alloc _, (R1.alloc _).alloc _, by omega⟩
  obtain ⟨g, hg⟩ : ∃ g, g = w1.heap.size + 1 := ⟨_, rfl⟩
  rw [← hg] at C2 E2 ⊢
  clear hW2 K1 R1 hB1 hs1 k0 k1 k2 kf klt rlt s0 hg
  go_loopw [8, 37] (fun _ v wr => ∃ (k : Nat) (rs : List (Int × Int × Int × Int)), v = .int .i64 k ∧ k ≤ n ∧ rs.length = k ∧ (∀ x : Nat, x < k → StretchIs (darkB n H px x) (rs.getD x (0, 0, 0, 0))) ∧ ColEnv w n H (.slice a np cp) g n wr ∧ ColBlk wr g n rs) (fun _ v _ => n - (intOf v).toNat)
  case atStart => exact ⟨0, [], rfl, by omega, rfl, fun x hx => by omega, E2, C2⟩
  case round =>
    obtain ⟨k, rs, rfl, hk, hl, hst, E, C⟩ := hrel
    obtain ⟨wa, rfl⟩ : ∃ wo : World, wo = wr := ⟨_, rfl⟩
    clear E2 C2
    obtain ⟨k0, k1, k2, kf, klt⟩ := E.img.d3
    have hI := h.below E.below
    by_cases hlt : k < n
    · have hd1 : decide ((k : Int) < (n : Int)) = true := by simp; omega
      go_wp2_with fail
      refine (scan_any n H k _ px wa hI ⟨by omega, by omega⟩).mono ?_
      rintro e w3 ⟨r, hr, rfl, hb3⟩
      have E3 := E.keep hb3
      have C3 := C.keep hb3 C.lt
      obtain ⟨⟨v0, c0⟩, ⟨v1, c1⟩, ⟨v2, c2⟩, ⟨v3, c3⟩, cf⟩ := C3.get hlt
      have clt := C3.lt
      have hst' : ∀ x : Nat, x < k + 1 → StretchIs (darkB n H px x) ((rs ++ [r]).getD x (0, 0, 0, 0)) := fun x hx => by
        rcases Nat.lt_or_ge x k with g' | g'
        · have := hst x g'
          simpa [List.getD, List.getElem?_append_left (show x < rs.length by omega)] using this
        · obtain rfl : x = k := by omega
          simpa [List.getD, ← hl] using hl ▸ hr
      have HST := Lib.hid hst'
      clear hst hst' hr hI k0 k1 k2 kf klt E C hb3
      dsimp only
      go_wp2_with fail
      go_roundw
      case rel => exact ⟨k + 1, rs ++ [r], by go_num, by omega, by simp [hl], HST.out, (((E3.set _).set _).set _).set _, C3.set hl hlt⟩
      case measure => simp [intOf]; omega
    · obtain rfl : k = n := by omega
      have hSL : StList k H px rs := ⟨by omega, fun x hx => hst x (by omega)⟩
      have hSB := hSL.bound h4
      have HSL := Lib.hid hSL
      have HSB := Lib.hid hSB
      have hcl := C.lt
      clear hst hSL hSB hk hlt
      go_wp2_with fail
      generalize hW3 : World.alloc (World.alloc wa _) _ = W3
      have E3 : ColEnv w k H (.slice a np cp) g k W3 := by rw [← hW3]; exact E.keep (by repeat (first | (with_reducible exact Below.refl _ _) | (with_reducible assumption) | ((with_reducible refine Below.setCell ?_ ?_ _); rotate_left; (focus (first | omega | (simp; done) | (simp; omega)))) | (with_reducible refine Below.drew ?_) | (with_reducible refine below_drewN ?_ _) | ((with_reducible refine Below.alloc ?_ ?_ _); rotate_left; (focus (first | omega | (simp; done) | (simp; omega))))))
      have C3 : ColBlk W3 g k rs := by rw [← hW3]; exact C.keep (B := wa.heap.size) (by repeat (first | (with_reducible exact Below.refl _ _) | (with_reducible assumption) | ((with_reducible refine Below.setCell ?_ ?_ _); rotate_left; (focus (first | omega | (simp; done) | (simp; omega)))) | (with_reducible refine Below.drew ?_) | (with_reducible refine below_drewN ?_ _) | ((with_reducible refine Below.alloc ?_ ?_ _); rotate_left; (focus (first | omega | (simp; done) | (simp; omega)))))) C.lt
      have S3 : Blk W3 wa.heap.size #[.int .i64 0] 3 := by rw [← hW3]; exact (Blk.new _ _ _).alloc _
      have T3 : Blk W3 (wa.heap.size + 1) #[.int .i64 0] 3 := by rw [← hW3]; exact Blk.newAt _ _ (by simp)
      have hs3 : W3.heap.size = wa.heap.size + 1 + 1 := by rw [← hW3]; simp
      clear hW3
      refine (pageRows_any W3).mono ?_
      rintro e w4 ⟨v, rfl, hown, hb4⟩
      replace hown : w4.ownsRow W3.heap.size 3 1 v 2 [.int .i64 53, .int .i64 85] := hown
      obtain ⟨gl, cl, rfl, hg1, hg2, hg3, hg4⟩ := own_some hown (by omega)
      have p0 := hown.cellAt 0 (by simp)
      have p1 := hown.cellAt 1 (by simp)
      have M4 : Col2 w k H (.slice a np cp) g k rs wa.heap.size gl 0 0 w4 := ⟨E3.keep hb4, C3.keep hb4 C3.lt, S3.keep hb4 S3.lt, T3.keep hb4 T3.lt, by simpa using p0, by simpa using p1, hcl, by omega, hg2⟩
      clear E C E3 C3 S3 T3 hs3 hb4 hown p0 p1 k0 k1 k2 kf klt hI hg1 hg2 hg3
      generalize wa.heap.size = ps at *
      dsimp only
      go_wp2_with fail
      go_loopw [9, 17, 49] (fun m _ i wr => ∃ (j : Nat) (most s R : Int), m = .int .i64 most ∧ i = .int .i64 j ∧ j ≤ 2 ∧ BestC rs (DC (if j = 0 then 53 else if j = 1 then 85 else 100) 3) most s R ∧ Col2 w k H (.slice a np cp) g k rs ps gl s R wr) (fun _ _ i _ => 2 - (intOf i).toNat)
      case atStart => exact ⟨0, -1, 0, 0, rfl, rfl, by omega, BestC.start, M4⟩
      case round =>
        obtain ⟨j, most, s, R, rfl, rfl, hj, hbest, M⟩ := hrel
        obtain ⟨wb, rfl⟩ : ∃ wo : World, wo = wr := ⟨_, rfl⟩
        clear M4
        have hj3 : j < 2 ∨ j = 2 := by omega
        rcases hj3 with hj2 | rfl
        · obtain ⟨R1, hR1⟩ : ∃ R1 : Int, R1 = if j = 0 then 53 else 85 := ⟨_, rfl⟩
          have hcell : wb.cell? ⟨gl, j, none⟩ = some (.int .i64 R1) := by
            rcases Nat.lt_or_ge j 1 with g' | g'
            · obtain rfl : j = 0 := by omega
              rw [hR1]; exact M.p0
            · obtain rfl : j = 1 := by omega
              rw [hR1]; exact M.p1
          have hbest1 : BestC rs (DC R1 3) most s R := by
            have e : (if j = 0 then (53 : Int) else if j = 1 then 85 else 100) = R1 := by rw [hR1]; split <;> simp <;> omega
            rw [e] at hbest; exact hbest
          have hR2 : R1 = 53 ∧ (if j + 1 = 0 then (53 : Int) else if j + 1 = 1 then 85 else 100) = 85 ∨ R1 = 85 ∧ (if j + 1 = 0 then (53 : Int) else if j + 1 = 1 then 85 else 100) = 100 := by
            rcases Nat.lt_or_ge j 1 with g' | g'
            · obtain rfl : j = 0 := by omega
              exact .inl ⟨by rw [hR1]; rfl, rfl⟩
            · obtain rfl : j = 1 := by omega
              exact .inr ⟨by rw [hR1]; rfl, rfl⟩
          have HR2 := Lib.hid hR2
          have hR3 : R1 = 53 ∨ R1 = 85 := by rcases hR2 with g' | g' <;> simp [g'.1]
          have HR3 := Lib.hid hR3
          have hd2 : decide ((j : Int) < 2) = true := by simp; omega
          have hj2' : (j : Int) < 2 := by omega
          clear hR2 hR1 hbest hR3
          go_wp2_with fail
          go_loopw [9, 14, 17] (fun m i _ wr => ∃ (s1 most s R : Int), m = .int .i64 most ∧ i = .int .i64 s1 ∧ 3 ≤ s1 ∧ s1 ≤ 7 ∧ BestC rs (DC R1 s1) most s R ∧ Col2 w k H (.slice a np cp) g k rs ps gl s R wr) (fun _ i _ _ => 7 - (intOf i).toNat)
          case atStart => exact ⟨3, most, s, R, rfl, rfl, by omega, by omega, hbest1, M⟩
          case round =>
            clear M hbest1 hcell
            obtain ⟨s1, most, s, R, rfl, rfl, hs1, hs2, hbest, M⟩ := hrel
            obtain ⟨wc, rfl⟩ : ∃ wo : World, wo = wr := ⟨_, rfl⟩
            by_cases hs3 : s1 ≤ 6
            · have hd3 : decide (s1 ≤ 6) = true := by simpa using hs3
              go_wp2_with fail
              go_loopw [15, 17, 59] (fun c _ i wr => ∃ x : Nat, i = .int .i64 x ∧ x ≤ k ∧ c = .int .i64 (((rs.take x).countP (fun r => fullB r s1 R1) : Nat) : Int) ∧ Col2 w k H (.slice a np cp) g k rs ps gl s R wr) (fun _ _ i _ => k - (intOf i).toNat)
              case atStart => exact ⟨0, rfl, by omega, by simp, M⟩
              case round =>
                clear M
                obtain ⟨x, rfl, hx, rfl, M⟩ := hrel
                obtain ⟨wd, rfl⟩ : ∃ wo : World, wo = wr := ⟨_, rfl⟩
                by_cases hxk : x < k
                · obtain ⟨r, hr⟩ : ∃ r, r = rs.getD x (0, 0, 0, 0) := ⟨_, rfl⟩
                  have hrx : rs[x]? = some r := by rw [hr]; exact getD_some (by omega)
                  obtain ⟨c0, c1, c2, c3⟩ := M.c.at' x r hrx
                  have hrB := HSB.out r (List.mem_of_getElem? hrx)
                  have hcnt := cnt_take (p := fun r => fullB r s1 R1) (rs := rs) (x := x) (by omega)
                  rw [← hr] at hcnt
                  have HCNT := Lib.hid hcnt
                  have hle : (rs.take x).countP (fun r => fullB r s1 R1) ≤ x := Nat.le_trans List.countP_le_length (by simp; omega)
                  have HF := Lib.hid (fun wz => pfull_any r s1 R1 wz hrB ⟨by omega, by omega⟩ (by have := HR3.out; omega))
                  generalize hq : (rs.take x).countP (fun r => fullB r s1 R1) = q at *
                  have hd4 : decide ((x : Int) < (k : Int)) = true := by simp; omega
                  clear hr hrx hrB hcnt hq
                  go_wp2_with fail
                  refine (HF.out _).mono ?_
                  rintro e we ⟨rfl, hbe⟩
                  have M' := M.keep (binto (below_alloc wd _) hbe)
                  clear HF hbe c0 c1 c2 c3 M
                  cases hfu : fullB r s1 R1 with
                  | true =>
                    have hnew : (rs.take (x + 1)).countP (fun r => fullB r s1 R1) = q + 1 := by have := HCNT.out; simp [hfu] at this; exact this
                    have HNEW := Lib.hid hnew
                    clear hnew hfu HCNT
                    go_wp2_with fail
                    go_roundw
                    case rel => exact ⟨x + 1, by go_num, by omega, by rw [HNEW.out]; go_num, M'⟩
                    case measure => simp [intOf]; omega
                  | false =>
                    have hnew : (rs.take (x + 1)).countP (fun r => fullB r s1 R1) = q := by have := HCNT.out; simp [hfu] at this; exact this
                    have HNEW := Lib.hid hnew
                    clear hnew hfu HCNT
                    go_wp2_with fail
                    go_roundw
                    case rel => exact ⟨x + 1, by go_num, by omega, by rw [HNEW.out], M'⟩
                    case measure => simp [intOf]; omega
                · obtain rfl : x = k := by omega
                  have hcq : (rs.take x).countP (fun r => fullB r s1 R1) = cntF rs R1 s1 := by rw [cntF, List.take_of_length_le (by omega)]
                  rw [hcq]
                  have hcl1 : cntF rs R1 s1 ≤ 640 := Nat.le_trans List.countP_le_length (by omega)
                  obtain ⟨b1, b2, b3, b4, b5, b6⟩ := hbest.range (by omega)
                  have hcand : Cand R1 s1 := ⟨HR3.out, by omega, by omega⟩
                  obtain ⟨t0, tf, tlt⟩ := M.s.d1
                  obtain ⟨u0, uf, ult⟩ := M.r.d1
                  have hw1 : IntKind.i64.wrap (R1 * s1) = R1 * s1 := IntWalk.i64_in _ (by have := sR_bound (s := s1) (R := R1) ⟨by omega, by omega⟩ (by have := HR3.out; omega); omega)
                  have hw2 : IntKind.i64.wrap (R * s) = R * s := IntWalk.i64_in _ (by have := sR_bound (s := s) (R := R) ⟨by omega, by omega⟩ ⟨by omega, by omega⟩; omega)
                  by_cases q1 : most < (cntF rs R1 s1 : Int)
                  · have hn1 := hbest.take hcand (.inl q1)
                    have HN1 := Lib.hid hn1
                    have M' := M.set s1 R1
                    clear hbest hcq hcand hn1 M
                    generalize cntF rs R1 s1 = cc at *
                    go_wp2_with fail
                    go_roundw
                    case rel => exact ⟨s1 + 1, _, s1, R1, rfl, by go_num, by omega, by omega, HN1.out, M'⟩
                    case measure => simp [intOf]; omega
                  · by_cases q2 : (cntF rs R1 s1 : Int) = most
                    · by_cases q3 : R1 * s1 < R * s
                      · have hn1 := hbest.take hcand (.inr ⟨q2, q3⟩)
                        have HN1 := Lib.hid hn1
                        have M' := M.set s1 R1
                        have q4 : ((cntF rs R1 s1 : Int) == most) = true := by simpa using q2
                        have q5 : decide (most < (cntF rs R1 s1 : Int)) = false := by simpa using q1
                        have q6 : decide (R1 * s1 < R * s) = true := by simpa using q3
                        clear hbest hcq hcand hn1 M q1 q2 q3
                        generalize cntF rs R1 s1 = cc at *
                        go_wp2_with fail
                        go_roundw
                        case rel => exact ⟨s1 + 1, _, s1, R1, rfl, by go_num, by omega, by omega, HN1.out, M'⟩
                        case measure => simp [intOf]; omega
                      · have hn1 := hbest.leave (by omega) (fun _ => by omega)
                        have HN1 := Lib.hid hn1
                        have q4 : ((cntF rs R1 s1 : Int) == most) = true := by simpa using q2
                        have q5 : decide (most < (cntF rs R1 s1 : Int)) = false := by simpa using q1
                        have q6 : decide (R1 * s1 < R * s) = false := by simpa using q3
                        clear hbest hcq hcand hn1 q1 q2 q3
                        generalize cntF rs R1 s1 = cc at *
                        go_wp2_with fail
                        go_roundw
                        case rel => exact ⟨s1 + 1, most, s, R, rfl, by go_num, by omega, by omega, HN1.out, M⟩
                        case measure => simp [intOf]; omega
                    · have hn1 := hbest.leave (by omega) (fun e => absurd e q2)
                      have HN1 := Lib.hid hn1
                      have q4 : ((cntF rs R1 s1 : Int) == most) = false := by simpa using q2
                      have q5 : decide (most < (cntF rs R1 s1 : Int)) = false := by simpa using q1
                      clear hbest hcq hcand hn1 q1 q2
                      generalize cntF rs R1 s1 = cc at *
                      go_wp2_with fail
                      go_roundw
                      case rel => exact ⟨s1 + 1, most, s, R, rfl, by go_num, by omega, by omega, HN1.out, M⟩
                      case measure => simp [intOf]; omega
            · obtain rfl : s1 = 7 := by omega
              have hnext := hbest.rows (by omega) HR2.out
              go_wp2_with fail
              go_roundw
              case rel => exact ⟨j + 1, most, s, R, rfl, by go_num, by omega, hnext, M⟩
              case measure => simp [intOf]; omega
        · obtain ⟨hBI, hmost⟩ := hbest.done
          have hrng := hbest.range (by omega)
          obtain ⟨hc1, hc2, hc3⟩ := hBI.1
          obtain ⟨t0, tf, tlt⟩ := M.s.d1
          obtain ⟨u0, uf, ult⟩ := M.r.d1
          obtain ⟨r0, r1, rf, rlt⟩ := M.e.res.d2
          obtain ⟨k0, k1, k2, kf, klt⟩ := M.e.img.d3
          have HBI := Lib.hid hBI
          have HM := Lib.hid hmost
          have hBE := M.e.below
          clear hbest hBI hmost
          by_cases hfew : most < 29 * s
          · go_wp2_with (go_at_call 16; refine (faultL_exact _ _ _).mono ?_; rintro e w' ⟨rfl, rfl⟩)
            refine bodyPost_ret (v := .tuple #[.slice none 0 0, .int .i64 0, .int .i64 0, .agg #[.int .i64 12, .int .i64 (-1)]]) (by simp [results, Tryz.results13, go_sem, r0, r1, rf, rlt]) rfl ?_
            exact ⟨rs, none, HSL.out, ⟨R, s, HBI.out, .inl ⟨by have := HM.out; omega, rfl⟩⟩, (by repeat (first | (with_reducible exact Below.refl _ _) | (with_reducible assumption) | ((with_reducible refine Below.setCell ?_ ?_ _); rotate_left; (focus (first | omega | (simp; done) | (simp; omega)))) | (with_reducible refine Below.drew ?_) | (with_reducible refine below_drewN ?_ _) | ((with_reducible refine Below.alloc ?_ ?_ _); rotate_left; (focus (first | omega | (simp; done) | (simp; omega)))))), rfl⟩
          · have hmost := HM.out
            have hpos : 0 < cntF rs R s := by omega
            obtain ⟨fa, hfa⟩ := first_ex hpos
            have HFA := Lib.hid hfa
            have hfk : fa < k := by have := hfa.1; omega
            have hmf := HMF.out
            clear hmost hpos hfa
            go_wp2_with fail
            refine (repeatI (x := -1) (N := k) (Blk.new _ _ _) (by omega) (by omega)).mono ?_
            rintro e w5 ⟨gt, he, hge, hT, hb5⟩
            rw [List.length_replicate] at he
            subst he
            have hT5 : LBlk w5 gt ((tabF k (t1F rs s R fa fa)).map (Value.int .i64)) 3 := by rw [t1_start, List.map_replicate]; exact hT
            have M5 := M.keep (binto (below_alloc _ _) hb5)
            have hgl := M.h3
            have hge' : gl < gt := by simp at hge; omega
            clear t0 tf tlt u0 uf ult r0 r1 rf rlt k0 k1 k2 kf klt hBE hT hb5 hge M hgl
            have hIDX := indexCol_any rs s R g k ps (ps + 1) fa w5 HSB.out ⟨by omega, by omega⟩ ⟨by omega, by omega⟩ M5.c.at' M5.c.lt hl (by omega) M5.s M5.r hfk HFA.out.2.1 HFA.out.2.2
            have HIDX := Lib.hid hIDX
            clear hIDX
            dsimp only
            go_wp2_with fail
            refine HIDX.out.mono ?_
            rintro e w6 ⟨rfl, hb6⟩
            have M6 := M5.keep hb6
            have hT6 := hT5.keep hb6 hT5.lt
            clear HIDX M5 hT5 hb6
            dsimp only
            go_wp2_with fail
            go_loopw [21, 22] (fun t x wr => ∃ (tt xx : Nat), t = .int .i64 tt ∧ x = .int .i64 xx ∧ fa ≤ tt ∧ tt < k ∧ fa ≤ xx ∧ xx ≤ k ∧ fullB (rs.getD tt (0, 0, 0, 0)) s R = true ∧ Hid (∀ j, tt < j → j < xx → fullB (rs.getD j (0, 0, 0, 0)) s R = false) ∧ Col2 w k H (.slice a np cp) g k rs ps gl s R wr ∧ LBlk wr gt ((tabF k (t1F rs s R fa xx)).map (Value.int .i64)) 3) (fun _ x _ => k - (intOf x).toNat)
            case atStart => exact ⟨fa, fa, rfl, rfl, Nat.le_refl _, hfk, Nat.le_refl _, by omega, HFA.out.2.1, fun j h1 h2 => by omega, M6, hT6⟩
            case round =>
              clear M6 hT6
              obtain ⟨tt, xx, rfl, rfl, i1, i2, i3, i4, hfull, HNO, M, hT⟩ := hrel
              obtain ⟨wd, rfl⟩ : ∃ wo : World, wo = wr := ⟨_, rfl⟩
              by_cases hxk : xx < k
              · obtain ⟨r, hr⟩ : ∃ r, r = rs.getD xx (0, 0, 0, 0) := ⟨_, rfl⟩
                have hrx : rs[xx]? = some r := by rw [hr]; exact getD_some (by omega)
                obtain ⟨c0, c1, c2, c3⟩ := M.c.at' xx r hrx
                have hrB := HSB.out r (List.mem_of_getElem? hrx)
                have hd4 : decide ((xx : Int) < (k : Int)) = true := by simp; omega
                have HF := Lib.hid (fun wz h1 h2 => isFull_any r s R ps (ps + 1) wz hrB ⟨by omega, by omega⟩ ⟨by omega, by omega⟩ h1 h2)
                have HFU := Lib.hid hfull
                have HR0 := Lib.hid hr
                clear hrx hrB hfull hr
                go_wp2_with fail
                refine (HF.out _ M.s M.r).mono ?_
                rintro e we ⟨rfl, hbe⟩
                have M' := M.keep hbe
                have hT' := hT.keep hbe hT.lt
                clear HF hbe c0 c1 c2 c3 M hT
                cases hfu : fullB r s R with
                | true =>
                  obtain ⟨c0, c1, c2, c3⟩ := M'.c.at' xx r (by rw [HR0.out]; exact getD_some (by omega))
                  rw [scan_fst] at c0
                  have hg0 := hT'.getI hxk
                  have hgf := hT'.froz
                  have hf2 : fullB (rs.getD xx (0, 0, 0, 0)) s R = true := HR0.out ▸ hfu
                  have hset := t1_yes (rs := rs) (s := s) (R := R) (a := fa) (x := xx) (k := k) i3 hf2
                  rw [← HR0.out] at hset
                  have HSET := Lib.hid hset
                  have HF2 := Lib.hid hf2
                  clear hset hf2 hfu
                  go_wp2_with fail
                  go_roundw
                  case rel => exact ⟨xx, xx + 1, rfl, by go_num, i3, hxk, by omega, by omega, HF2.out, fun j h1 h2 => by omega, M'.other hge' _, hT'.setI _ HSET.out⟩
                  case measure => simp [intOf]; omega
                | false =>
                  have hf2 : fullB (rs.getD xx (0, 0, 0, 0)) s R = false := HR0.out ▸ hfu
                  have hset := t1_no (rs := rs) (s := s) (R := R) (a := fa) (x := xx) (k := k) hf2
                  rw [hset] at hT'
                  have hno' : ∀ j, tt < j → j < xx + 1 → fullB (rs.getD j (0, 0, 0, 0)) s R = false := fun j h1 h2 => by
                    rcases Nat.lt_or_eq_of_le (Nat.le_of_lt_succ h2) with g' | rfl
                    · exact HNO.out j h1 g'
                    · exact hf2
                  have HNO' := Lib.hid hno'
                  clear hset hf2 hfu hno'
                  go_wp2_with fail
                  go_roundw
                  case rel => exact ⟨tt, xx + 1, rfl, by go_num, i1, i2, by omega, by omega, HFU.out, HNO', M', hT'⟩
                  case measure => simp [intOf]; omega
              · obtain rfl : xx = k := by omega
                have hlast : LastIs rs s R tt := ⟨by omega, hfull, fun j h1 h2 => HNO.out j h1 (by omega)⟩
                have htab := t2_start (a := fa) hlast
                rw [hl] at htab
                rw [htab] at hT
                have HLAST := Lib.hid hlast
                clear htab hlast HNO hfull
                go_wp2_with fail
                go_loopw [23] (fun x wr => ∃ (yy : Nat), x = .int .i64 yy ∧ fa ≤ yy ∧ yy ≤ tt + 1 ∧ Col2 w xx H (.slice a np cp) g xx rs ps gl s R wr ∧ LBlk wr gt ((tabF xx (t2F rs s R fa tt yy)).map (Value.int .i64)) 3) (fun x _ => xx - (intOf x).toNat)
                case atStart => exact ⟨fa, rfl, Nat.le_refl _, by omega, M, hT⟩
                case round =>
                  clear M hT
                  obtain ⟨yy, rfl, j1, j2, M, hT⟩ := hrel
                  obtain ⟨wd, rfl⟩ : ∃ wo : World, wo = wr := ⟨_, rfl⟩
                  by_cases hyt : yy ≤ tt
                  · obtain ⟨r, hr⟩ : ∃ r, r = rs.getD yy (0, 0, 0, 0) := ⟨_, rfl⟩
                    have hrx : rs[yy]? = some r := by rw [hr]; exact getD_some (by omega)
                    obtain ⟨c0, c1, c2, c3⟩ := M.c.at' yy r hrx
                    have hrB := HSB.out r (List.mem_of_getElem? hrx)
                    have hd4 : decide ((yy : Int) ≤ (tt : Int)) = true := by simp; omega
                    have hyx : yy < xx := by omega
                    have HF := Lib.hid (fun wz h1 h2 => isFull_any r s R ps (ps + 1) wz hrB ⟨by omega, by omega⟩ ⟨by omega, by omega⟩ h1 h2)
                    have HTOP := Lib.hid (fun wz => top_any r s R wz hrB ⟨by omega, by omega⟩ ⟨by omega, by omega⟩)
                    have HR0 := Lib.hid hr
                    clear hrx hrB hr
                    go_wp2_with fail
                    refine (HF.out _ M.s M.r).mono ?_
                    rintro e we ⟨rfl, hbe⟩
                    have M' := M.keep hbe
                    have hT' := hT.keep hbe hT.lt
                    clear HF hbe c0 c1 c2 c3 M hT
                    cases hfu : fullB r s R with
                    | true =>
                      have hf2 : fullB (rs.getD yy (0, 0, 0, 0)) s R = true := HR0.out ▸ hfu
                      have hset := t2_yes (rs := rs) (s := s) (R := R) (a := fa) (b := tt) (x := yy) (k := xx) j1 hyt hf2
                      rw [hset] at hT'
                      clear hset hf2 hfu
                      go_wp2_with fail
                      go_roundw
                      case rel => exact ⟨yy + 1, by go_num, by omega, by omega, M', hT'⟩
                      case measure => simp [intOf]; omega
                    | false =>
                      have hf2 : fullB (rs.getD yy (0, 0, 0, 0)) s R = false := HR0.out ▸ hfu
                      have hset := t2_no (rs := rs) (s := s) (R := R) (a := fa) (b := tt) (x := yy) (k := xx) j1 hf2
                      rw [← HR0.out] at hset
                      obtain ⟨c0, c1, c2, c3⟩ := M'.c.at' yy r (by rw [HR0.out]; exact getD_some (by omega))
                      obtain ⟨t0, tf, tlt⟩ := M'.s.d1
                      obtain ⟨u0, uf, ult⟩ := M'.r.d1
                      have hg0 := hT'.getI hyx
                      have hgf := hT'.froz
                      have hglt := hT'.lt
                      have HSET := Lib.hid hset
                      clear hset hf2 hfu
                      go_wp2_with fail
                      have glt := M'.c.lt
                      have n1 : g ≠ gt := by have := M'.h1; have := M'.h2; omega
                      have n2 : ps ≠ gt := by have := M'.h2; omega
                      have n3 : ps + 1 ≠ gt := by have := M'.h2; omega
                      go_region_held3 (fun w' => w'.cell? ⟨g, yy * 4, none⟩ = some (.int .i64 (scanOf r).1) ∧ w'.cell? ⟨g, yy * 4 + 1, none⟩ = some (.int .i64 (scanOf r).2.1) ∧ w'.cell? ⟨g, yy * 4 + 2, none⟩ = some (.int .i64 (scanOf r).2.2.1) ∧ w'.cell? ⟨g, yy * 4 + 3, none⟩ = some (.int .i64 (scanOf r).2.2.2) ∧ w'.cell? ⟨ps, 0, none⟩ = some (.int .i64 s) ∧ w'.cell? ⟨ps + 1, 0, none⟩ = some (.int .i64 R))
                        (first | go_keep | exact ⟨keep hbf (by assumption) (by first | assumption | (simp; omega) | omega), keep hbf (by assumption) (by first | assumption | (simp; omega) | omega), keep hbf (by assumption) (by first | assumption | (simp; omega) | omega), keep hbf (by assumption) (by first | assumption | (simp; omega) | omega), keep hbf (by assumption) (by first | assumption | (simp; omega) | omega), keep hbf (by assumption) (by first | assumption | (simp; omega) | omega)⟩ | exact ⟨setO (keep hbf (by assumption) (by first | assumption | (simp; omega) | omega)) n1, setO (keep hbf (by assumption) (by first | assumption | (simp; omega) | omega)) n1, setO (keep hbf (by assumption) (by first | assumption | (simp; omega) | omega)) n1, setO (keep hbf (by assumption) (by first | assumption | (simp; omega) | omega)) n1, setO (keep hbf (by assumption) (by first | assumption | (simp; omega) | omega)) n2, setO (keep hbf (by assumption) (by first | assumption | (simp; omega) | omega)) n3⟩)
                        ((first | (go_at_call 40; refine (HTOP.out _).mono ?_; rintro e wf ⟨rfl, hbf⟩; have q1 := keep (w := we.drew) hbf hg0 hglt; have q2 := keepF (w := we.drew) hbf (hgf yy) hglt)))
                      have M2 := (M'.drew.keep hbf).other (p := ⟨gt, yy, none⟩) hge' (.int .i64 (topF r s R))
                      have T2 := LBlk.setI (hT'.keep (w := we.drew) hbf hglt) (x := yy) (topF r s R) HSET.out
                      go_wp2_with fail
                      go_roundw
                      case rel => exact ⟨yy + 1, by go_num, by omega, by omega, M2, T2⟩
                      case measure => simp [intOf]; omega
                  · obtain rfl : yy = tt + 1 := by omega
                    obtain ⟨r0, r1, rf, rlt⟩ := M.e.res.d2
                    obtain ⟨t0, tf, tlt⟩ := M.s.d1
                    obtain ⟨u0, uf, ult⟩ := M.r.d1
                    have hTl := hT.lt
                    have hT2 : LBlk wd gt ((List.replicate fa (-1) ++ midF rs s R fa tt ++ List.replicate (xx - (tt + 1)) (-1)).map (Value.int .i64)) 3 := by
                      have e := t2_done (rs := rs) (s := s) (R := R) (a := fa) (b := tt) i1 (by omega)
                      rw [hl] at e
                      rw [e] at hT; exact hT
                    have hml := midF_length (rs := rs) (s := s) (R := R) (a := fa) (b := tt) (by omega)
                    have hvo : ValsOk (midF rs s R fa tt) := by
                      have hall : ∀ v ∈ midF rs s R fa tt, -1 ≤ v ∧ v ≤ 641 := fun v hv => by
                        obtain ⟨i, hi, rfl⟩ := List.getElem_of_mem hv
                        have hi2 : i < tt + 1 - fa := by omega
                        have e := midF_get (rs := rs) (s := s) (R := R) (a := fa) (b := tt) (k := i) (by omega) (by omega)
                        simp only [List.getD, List.getElem?_eq_getElem hi, Option.getD_some] at e
                        rw [e]
                        have hb := HSB.out (rs[fa + i]'(by omega)) (List.getElem_mem _)
                        have hget : rs[fa + i]?.getD (0, 0, 0, 0) = rs[fa + i]'(by omega) := by simp [show fa + i < rs.length by omega]
                        rw [hget]
                        exact tv_bound hb ⟨by omega, by omega⟩ ⟨by omega, by omega⟩
                      exact ⟨by omega, fun v hv => by have := hall v hv; omega, fun v hv => by have := hall v hv; omega⟩
                    have hrd : Reads (Value.int .i64) wd (.slice (some ⟨gt, fa, none⟩) (midF rs s R fa tt).length (xx - fa)) (midF rs s R fa tt) := by
                      refine ⟨_, _, rfl, by omega, by simp only [maxLen]; omega, .inr ⟨gt, fa, rfl, hTl, fun i x hx => hT2.cell ?_⟩⟩
                      have hi := (List.getElem?_eq_some_iff.1 hx).1
                      rw [List.getElem?_map, List.append_assoc, List.getElem?_append_right (by simp), List.length_replicate, show fa + i - fa = i by omega, List.getElem?_append_left hi, hx]
                      rfl
                    have HFILL := fill_any _ _ _ hvo hrd
                    rw [hml] at HFILL
                    have HFILL := Lib.hid HFILL
                    have HT2 := Lib.hid hT2
                    have HML := Lib.hid hml
                    clear hvo hrd hT hT2 hml
                    go_wp2_with fail
                    refine HFILL.out.mono ?_
                    rintro e w7 ⟨v, rfl, hown, hb7⟩
                    rw [fillF_len, HML.out] at hown
                    obtain ⟨go, co, rfl, hgo1, hgo2, hgo3, hgo4⟩ := own_some hown (by omega)
                    have M7 := M.keep hb7
                    have hT7 := HT2.out.keep hb7 hTl
                    have hsl7 := hb7.size
                    clear HFILL HT2 r0 r1 rf rlt t0 tf tlt u0 uf ult hb7 M
                    obtain ⟨w8, hw8⟩ : ∃ w8, w8 = w7.alloc (.cells #[.int .i64 0, .int .i64 0] 29) := ⟨_, rfl⟩
                    have hb8 : Below w7.heap.size w7 w8 := by rw [hw8]; exact below_alloc _ _
                    have M8 := M7.keep hb8
                    have hT8 := hT7.keep hb8 (by omega)
                    have hsrc : SrcList w8 (some ⟨go, 0, none⟩) ((fillF (midF rs s R fa tt)).map (Value.int .i64)) := ⟨_, rfl, fun j v hv => by
                      rw [Addr.add_lit, Nat.zero_add]
                      have hj := (List.getElem?_eq_some_iff.1 hv).1
                      rw [List.length_map, fillF_len, HML.out] at hj
                      exact keep hb8 ((hown.cellAt j (by omega)).trans hv) hgo2⟩
                    have hok : CopyOk ((fillF (midF rs s R fa tt)).map (Value.int .i64)) (tt + 1 - fa) (xx - fa) fa ((List.replicate fa (-1) ++ midF rs s R fa tt ++ List.replicate (xx - (tt + 1)) (-1)).map (Value.int .i64)).length := by
                      refine ⟨by rw [List.length_map, fillF_len, HML.out]; omega, by simp only [List.length_map, List.length_append, List.length_replicate, fillF_len, HML.out]; omega, fun v hv => ?_⟩
                      obtain ⟨z, -, rfl⟩ := List.mem_map.1 hv
                      rfl
                    have HW8 := Lib.hid hw8
                    have hb88 : Below w.heap.size w w8 := M8.e.below
                    have hgtw : w.heap.size ≤ gt := by have := M8.e.lt; have := M8.h1; have := M8.h2; omega
                    clear hw8 hb8 M7 hT7 hown
                    dsimp only
                    go_wp2_with (rw [← HW8.out]; refine wp_copyL rfl _ _ 25 25 rfl 3 Tryz.underlying25 Tryz.infoI1 gt fa _ _ _ _ _ rfl rfl _ 3 hT8 _ hok hsrc (gl + 1) w8 (Below.refl _ _) hge' ?_)
                    intro w9 hT9 hb9
                    have M9 := M8.keepB hb9
                    have hfin : splice ((List.replicate fa (-1) ++ midF rs s R fa tt ++ List.replicate (xx - (tt + 1)) (-1)).map (Value.int .i64)) fa ((fillF (midF rs s R fa tt)).map (Value.int .i64)) = (topsF rs s R fa tt).map (Value.int .i64) := by
                      have e := splice_mid ((List.replicate fa (-1 : Int)).map (Value.int .i64)) ((midF rs s R fa tt).map (Value.int .i64)) ((List.replicate (xx - (tt + 1)) (-1 : Int)).map (Value.int .i64)) ((fillF (midF rs s R fa tt)).map (Value.int .i64)) (by simp [fillF_len])
                      rw [List.length_map, List.length_replicate] at e
                      rw [List.map_append, List.map_append, e, topsF, hl, List.map_append, List.map_append]
                    replace hT9 : LBlk w9 gt ((topsF rs s R fa tt).map (Value.int .i64)) 3 := by rw [← hfin]; simpa using hT9
                    have hlen9 : (topsF rs s R fa tt).length = xx := by
                      simp only [topsF, List.length_append, List.length_replicate, fillF_len, HML.out]; omega
                    have HT9 := Lib.hid hT9
                    have HL9 := Lib.hid hlen9
                    have hne9 : gt ≠ w.heap.size + 1 := by have := M9.e.lt; have := M9.h1; have := M9.h2; omega
                    have hB9 := M9.e.below
                    obtain ⟨r0, r1, rf, rlt⟩ := M9.e.res.d2
                    obtain ⟨t0, tf, tlt⟩ := M9.s.d1
                    obtain ⟨u0, uf, ult⟩ := M9.r.d1
                    have hmost := HM.out
                    clear hfin hlen9 hsrc hok hT8 HW8 M8 hb9 hT9
                    go_wp2_with fail
                    go_region
                    go_wp2_with fail
                    refine bodyPost_ret (v := .tuple #[.slice (some ⟨gt, 0, none⟩) xx xx, .int .i64 s, .int .i64 R, .agg #[.int .i64 0, .int .i64 0]]) (by simp [results, Tryz.results13, go_sem, r0, r1, rf, rlt]) rfl ?_
                    have HE := ((HT9.out.set_other (a := ⟨w.heap.size + 1, 0, none⟩) hne9 (.int .i64 0)).set_other (a := ⟨w.heap.size + 1, 1, none⟩) hne9 (.int .i64 0)).drew.own (base := w.heap.size) (n := xx) (by rw [List.length_map, HL9.out]) hgtw (by simp only [maxLen]; omega)
                    refine ⟨rs, some (topsF rs s R fa tt, s, R), HSL.out, ⟨R, s, HBI.out, .inr ⟨by omega, fa, tt, HFA.out, HLAST.out, rfl⟩⟩, (by repeat (first | (with_reducible exact Below.refl _ _) | (with_reducible assumption) | ((with_reducible refine Below.setCell ?_ ?_ _); rotate_left; (focus (first | omega | (simp; done) | (simp; omega)))) | (with_reducible refine Below.drew ?_) | (with_reducible refine below_drewN ?_ _) | ((with_reducible refine Below.alloc ?_ ?_ _); rotate_left; (focus (first | omega | (simp; done) | (simp; omega)))))), _, rfl, ?_⟩
                    rw [HL9.out]
                    exact HE

end Go.Proofs.YtnfgedbcfclnmaaGreat
