/-
  Words for slices of points; WALKS: their copies and comparisons. Own text.
-/
import Derived.Test.YtbgeooalhoaemaaSlice
import Derived.WideShapes
set_option linter.unusedVariables false
set_option linter.unusedSimpArgs false
namespace Go.Proofs.Ytbgeooalhoaemaa
open Go.RowKit

/-- A slice at A reads as these points. -/
def RP (w : World) (A : Option Addr) (ps : List (Int × Int)) : Prop :=
  0 < ps.length → ∃ b off, A = some ⟨b, off, none⟩ ∧ b < w.heap.size ∧ ∀ k (h : k < ps.length), w.cell? ⟨b, off + k * 2, none⟩ = some (.int .i64 ps[k].1) ∧ w.cell? ⟨b, off + k * 2 + 1, none⟩ = some (.int .i64 ps[k].2)
theorem RP.up {w W : World} {A : Option Addr} {ps : List (Int × Int)} (h : RP w A ps) (hb : Below w.heap.size w W) : RP W A ps := fun h0 => by
  obtain ⟨b, off, rfl, hlt, hc⟩ := h h0
  exact ⟨b, off, rfl, Nat.lt_of_lt_of_le hlt hb.size, fun k hk => ⟨(hb.cell (p := ⟨b, off + k * 2, none⟩) hlt).trans (hc k hk).1, (hb.cell (p := ⟨b, off + k * 2 + 1, none⟩) hlt).trans (hc k hk).2⟩⟩
theorem RP.at_ {w : World} {A : Option Addr} {ps : List (Int × Int)} (h : RP w A ps) {k : Nat} (hk : k < ps.length) :
    ∃ b off, A = some ⟨b, off, none⟩ ∧ b < w.heap.size ∧ w.cell? ⟨b, off + k * 2, none⟩ = some (.int .i64 ps[k].1) ∧ w.cell? ⟨b, off + k * 2 + 1, none⟩ = some (.int .i64 ps[k].2) := by
  obtain ⟨b, off, e, hb, hc⟩ := h (by omega)
  exact ⟨b, off, e, hb, hc k hk⟩

theorem szPointS_ok (A : Option Addr) (n c : Nat) (left : Int) (w : World) (h : (n : Int) ≤ left) (hl : left ≤ 1048576) :
    Calls Try.prog 20 #[.slice A n c, .int .i64 left] w fun e w' => e = .returned (.int .i64 (left - n)) ∧ w = w' := by
  go_enter Try.func20, Try.ntmps20
  go_wp2
  go_ret
  exact ⟨rfl, rfl⟩
theorem szPointS_no (A : Option Addr) (n c : Nat) (left : Int) (w : World) (h : left < n) (hl : 0 ≤ left) (hl' : left ≤ 1048576) (hn : n ≤ 9223372036854775807) :
    Calls Try.prog 20 #[.slice A n c, .int .i64 left] w fun e w' => e = .returned (.int .i64 (-1)) ∧ w = w' := by
  go_enter Try.func20, Try.ntmps20
  go_wp2
  go_ret
  exact ⟨rfl, rfl⟩
theorem toPoint_any (a b : Int) (w : World) :
    Gives Try.prog 60 #[.agg #[.int .i64 a, .int .i64 b]] w (.agg #[.int .i64 a, .int .i64 b]) := by
  refine Gives.of_below ?_
  go_enter Try.func60, Try.ntmps60
  go_wp2
  exact bodyPost_ret (v := .agg #[.int .i64 a, .int .i64 b]) (by simp [results, Try.results60, go_sem]) rfl ⟨rfl, (by repeat' (first | (with_reducible exact Below.refl _ _) | (with_reducible assumption) | (refine Below.via (by with_reducible assumption) ?_ ?_) | (with_reducible refine Ext.up _ ?_ ?_) | (with_reducible exact Nat.le_refl _) | (exact Below.size (by with_reducible assumption)) | (with_reducible refine Ext.le_size _ ?_) | (with_reducible refine le_alloc ?_ _) | (with_reducible refine le_setCell ?_ _ _) | (with_reducible refine le_drew ?_) | (with_reducible refine Below.alloc ?_ ?_ _) | (with_reducible refine Below.drew ?_) | (with_reducible refine Below.setCell ?_ ?_ _) | go_size | (simp [go_sem]; done) | omega | (simp [go_sem]; omega)))⟩
/-- What 'toPointS' hands back. -/
def MadePoints (ps : List (Int × Int)) (w0 : World) (e : Ending) (w' : World) : Prop :=
  ∃ A c, e = .returned (.slice A ps.length c) ∧ RP w' A ps ∧ ∃ x : Ext w0, w' = x.val
theorem Try.infoPoint : (Try.prog.info? 68).map (fun i => (i.zero, i.size, i.bytes)) = some (some (.agg #[.int .i64 0, .int .i64 0]), 2, 16) := by kernel_rfl
/-- the block of the call's own, written up to place k -/
def PBlk (w : World) (g : Nat) (ps : List (Int × Int)) (k : Nat) : Prop :=
  ∃ cs : Array Value, w.heap[g]? = some (.cells cs 68 (0, 0)) ∧ cs.size = ps.length * 2 ∧ ∀ i (h : i < ps.length), i < k → cs[i * 2]? = some (.int .i64 ps[i].1) ∧ cs[i * 2 + 1]? = some (.int .i64 ps[i].2)
theorem PBlk.lt {w : World} {g k : Nat} {ps : List (Int × Int)} (h : PBlk w g ps k) : g < w.heap.size := by
  obtain ⟨cs, hg, _⟩ := h
  exact (Array.getElem?_eq_some_iff.1 hg).1
theorem PBlk.up {w W : World} {g k : Nat} {ps : List (Int × Int)} (h : PBlk w g ps k) (hb : Below w.heap.size w W) : PBlk W g ps k := by
  have hl := h.lt
  obtain ⟨cs, hg, hr⟩ := h
  exact ⟨cs, (hb.block g hl).trans hg, hr⟩
theorem PBlk.cells {w : World} {g k j : Nat} {ps : List (Int × Int)} (h : PBlk w g ps k) (hj : j < ps.length * 2) : ∃ v, w.cell? ⟨g, j, none⟩ = some v := by
  obtain ⟨cs, hg, hs, _⟩ := h
  refine ⟨cs[j], ?_⟩
  simp [World.cell?, hg, hs, hj]
theorem PBlk.frozen {w : World} {g k : Nat} {ps : List (Int × Int)} (h : PBlk w g ps k) (j : Nat) : w.frozen? ⟨g, j, none⟩ = false := by
  obtain ⟨cs, hg, _⟩ := h
  simp [World.frozen?, hg]
theorem PBlk.store {w : World} {g k : Nat} {ps : List (Int × Int)} (h : PBlk w g ps k) (hk : k < ps.length) :
    PBlk ((w.setCell ⟨g, k * 2, none⟩ (.int .i64 ps[k].1)).setCell ⟨g, k * 2 + 1, none⟩ (.int .i64 ps[k].2)) g ps (k + 1) := by
  obtain ⟨cs, hg, hs, hc⟩ := h
  refine ⟨(cs.setIfInBounds (k * 2) (.int .i64 ps[k].1)).setIfInBounds (k * 2 + 1) (.int .i64 ps[k].2), by simp [World.setCell, Array.getElem?_modify, hg], by simp [hs], fun i hi hik => ?_⟩
  by_cases e : i = k
  · subst e
    refine ⟨?_, ?_⟩
    · rw [Array.getElem?_setIfInBounds_ne (by omega), Array.getElem?_setIfInBounds_self_of_lt (by omega)]
    · rw [Array.getElem?_setIfInBounds_self_of_lt (by simp; omega)]
  · obtain ⟨c1, c2⟩ := hc i hi (by omega)
    refine ⟨?_, ?_⟩
    · rw [Array.getElem?_setIfInBounds_ne (by omega), Array.getElem?_setIfInBounds_ne (by omega)]; exact c1
    · rw [Array.getElem?_setIfInBounds_ne (by omega), Array.getElem?_setIfInBounds_ne (by omega)]; exact c2
theorem PBlk.read {w : World} {g : Nat} {ps : List (Int × Int)} (h : PBlk w g ps ps.length) : RP w (some ⟨g, 0, none⟩) ps := fun _ => by
  have hl := h.lt
  obtain ⟨cs, hg, hs, hc⟩ := h
  refine ⟨g, 0, rfl, hl, fun k hk => ?_⟩
  obtain ⟨c1, c2⟩ := hc k hk hk
  simp [World.cell?, hg, c1, c2]
/-- 'make([]impl.Point, n)' -/
theorem wp_make_points {w : World} {ops : Array Oper} {rest : List Oper} {o : Oper} {a : Act} {Q : Exit → Act → World → Prop}
    (hg : o.guard = none) (l c : Operand) (hop : o.op = Op.makeSlice 34 l c) (L C : Int) (ps : List (Int × Int)) (hl : a.eval l = .int .i64 L) (hc : a.eval c = .int .i64 C) (hL : L = (ps.length : Int)) (hC : C = (ps.length : Int)) (hn : ps.length ≤ 1048576)
    (hK : ∀ w', PBlk w' w.heap.size ps 0 → w'.heap.size = w.heap.size + 1 → Below w.heap.size w w' → wpList Try.prog ops Q rest (a.put o.dst (.slice (some ⟨w.heap.size, 0, none⟩) ps.length ps.length)) w') :
    wpList Try.prog ops Q (o :: rest) a w := by
  obtain ⟨i0, hi, hz0, hz1, hz2⟩ := info_parts Try.infoPoint
  subst hL
  subst hC
  refine wpList_plain hg fun K hK' => ?_
  have hr := run_make (P := Try.prog) w 34 68 i0 _ Try.underlying34 hi hz0 .i64 .i64 ps.length ps.length (by omega) (by omega) (by rw [hz2]; omega) (by omega)
  simp only [Int.toNat_natCast] at hr
  unfold Oper.wp
  simp only [execOp, hop, hl, hc]
  simp [hr, Result.andThen]
  refine hK' _ _ (hK _ ⟨_, heap_alloc_new w _, by rw [size_madeCells, hz1], fun i _ h0 => absurd h0 (by omega)⟩ (by simp) ((Below.refl _ _).alloc (Nat.le_refl _) _))

set_option maxHeartbeats 1000000 in
theorem toPointS_any (A : Option Addr) (c : Nat) (ps : List (Int × Int)) (w : World) (hr : RP w A ps) (hn : ps.length ≤ 1048576) :
    Calls Try.prog 22 #[.slice A ps.length c] w (MadePoints ps w) := by
  go_enter Try.func22, Try.ntmps22
  go_wp2_with (refine wp_make_points rfl _ _ rfl _ _ ps rfl rfl rfl rfl hn ?_; intro w1 hO1 hs1 hb1)
  go_loopw [4] (fun i wr => ∃ k : Nat, k ≤ ps.length ∧ i = .int .i64 k ∧ PBlk wr w.heap.size ps k ∧ Below w.heap.size w wr) (fun i _ => ps.length - (intOf i).toNat)
  case atStart => exact ⟨0, Nat.zero_le _, rfl, hO1, hb1⟩
  case round =>
    clear hO1 hs1 hb1 w1
    obtain ⟨k, hk, rfl, hO, hb⟩ := hrel
    by_cases hlt : k < ps.length
    · obtain ⟨b, off, rfl, hbl, hcell, hcell'⟩ := (hr.up hb).at_ hlt
      have hgl := hO.lt
      obtain ⟨v1, hv1⟩ := hO.cells (j := k * 2) (by omega)
      obtain ⟨v2, hv2⟩ := hO.cells (j := k * 2 + 1) (by omega)
      have hf1 := hO.frozen (k * 2)
      have hf2 := hO.frozen (k * 2 + 1)
      go_wp2_with (go_at_call 60; refine (toPoint_any _ _ _).calls.mono ?_; rintro e w' ⟨rfl, x1, rfl⟩)
      go_roundw
      case rel => exact ⟨k + 1, hlt, by go_num, (hO.up x1.below).store hlt, (by repeat' (first | (with_reducible exact Below.refl _ _) | (with_reducible assumption) | (refine Below.via (by with_reducible assumption) ?_ ?_) | (with_reducible refine Ext.up _ ?_ ?_) | (with_reducible exact Nat.le_refl _) | (exact Below.size (by with_reducible assumption)) | (with_reducible refine Ext.le_size _ ?_) | (with_reducible refine le_alloc ?_ _) | (with_reducible refine le_setCell ?_ _ _) | (with_reducible refine le_drew ?_) | (with_reducible refine Below.alloc ?_ ?_ _) | (with_reducible refine Below.drew ?_) | (with_reducible refine Below.setCell ?_ ?_ _) | go_size | (simp [go_sem]; done) | omega | (simp [go_sem]; omega)))⟩
      case measure => simp [intOf]; omega
    · go_wp2
      go_ret
      have : k = ps.length := by omega
      subst this
      exact ⟨_, _, rfl, hO.read, Ext.some hb⟩
theorem eqPoint_same (a b : Int) (w : World) :
    Gives Try.prog 62 #[.agg #[.int .i64 a, .int .i64 b], .agg #[.int .i64 a, .int .i64 b]] w (.bool true) := by
  refine Gives.of_below ?_
  go_enter Try.func62, Try.ntmps62
  go_wp2
  go_ret
  exact ⟨rfl, (by repeat' (first | (with_reducible exact Below.refl _ _) | (with_reducible assumption) | (refine Below.via (by with_reducible assumption) ?_ ?_) | (with_reducible refine Ext.up _ ?_ ?_) | (with_reducible exact Nat.le_refl _) | (exact Below.size (by with_reducible assumption)) | (with_reducible refine Ext.le_size _ ?_) | (with_reducible refine le_alloc ?_ _) | (with_reducible refine le_setCell ?_ _ _) | (with_reducible refine le_drew ?_) | (with_reducible refine Below.alloc ?_ ?_ _) | (with_reducible refine Below.drew ?_) | (with_reducible refine Below.setCell ?_ ?_ _) | go_size | (simp [go_sem]; done) | omega | (simp [go_sem]; omega)))⟩
set_option maxHeartbeats 1000000 in
theorem eqPointS_same (A B : Option Addr) (c d : Nat) (ps : List (Int × Int)) (w : World) (hx : RP w A ps) (hy : RP w B ps) (hn : ps.length ≤ 1048576) :
    Gives Try.prog 24 #[.slice A ps.length c, .slice B ps.length d] w (.bool true) := by
  refine Gives.of_below ?_
  go_enter Try.func24, Try.ntmps24
  go_wp2
  go_loopw [5] (fun i wr => ∃ k : Nat, k ≤ ps.length ∧ i = .int .i64 k ∧ Below w.heap.size w wr) (fun i _ => ps.length - (intOf i).toNat)
  case atStart => exact ⟨0, Nat.zero_le _, rfl, Below.refl _ _⟩
  case round =>
    obtain ⟨k, hk, rfl, hb⟩ := hrel
    by_cases hlt : k < ps.length
    · obtain ⟨b, off, rfl, hbl, hcell1, hcell2⟩ := (hx.up hb).at_ hlt
      obtain ⟨b', off', rfl, hbl', hcell3, hcell4⟩ := (hy.up hb).at_ hlt
      go_wp2
      (refine wp_region_ext (by kernel_rfl) (by kernel_rfl) ?_; (repeat (go_big_quiet_step ((go_at_call 62; exact Gives.quiet (eqPoint_same _ _ _))))); refine wpQuiet_nil ?_; intro _ hw'; obtain ⟨xq, hw''⟩ := hw'; subst hw'')
      go_wp2
      go_roundw
      case rel => exact ⟨k + 1, hlt, by go_num, (by repeat' (first | (with_reducible exact Below.refl _ _) | (with_reducible assumption) | (refine Below.via (by with_reducible assumption) ?_ ?_) | (with_reducible refine Ext.up _ ?_ ?_) | (with_reducible exact Nat.le_refl _) | (exact Below.size (by with_reducible assumption)) | (with_reducible refine Ext.le_size _ ?_) | (with_reducible refine le_alloc ?_ _) | (with_reducible refine le_setCell ?_ _ _) | (with_reducible refine le_drew ?_) | (with_reducible refine Below.alloc ?_ ?_ _) | (with_reducible refine Below.drew ?_) | (with_reducible refine Below.setCell ?_ ?_ _) | go_size | (simp [go_sem]; done) | omega | (simp [go_sem]; omega)))⟩
      case measure => simp [intOf]; omega
    · go_wp2
      go_ret
      exact ⟨rfl, hb⟩

/-- twice the area of a triangle -/
def turn (a b c : Int × Int) : Int := (b.1 - a.1) * (c.2 - a.2) - (b.2 - a.2) * (c.1 - a.1)
def ptOk (p : Int × Int) : Bool := decide (-10 ≤ p.1 ∧ p.1 ≤ 10 ∧ -10 ≤ p.2 ∧ p.2 ≤ 10)
theorem ptOk_true {p : Int × Int} : ptOk p = true ↔ -10 ≤ p.1 ∧ p.1 ≤ 10 ∧ -10 ≤ p.2 ∧ p.2 ≤ 10 := by simp [ptOk]
theorem ptOk_false {p : Int × Int} : ptOk p = false ↔ ¬(-10 ≤ p.1 ∧ p.1 ≤ 10 ∧ -10 ≤ p.2 ∧ p.2 ≤ 10) := by simp [ptOk]
theorem turn_bd {a b c : Int × Int} (ha : ptOk a = true) (hb : ptOk b = true) (hc : ptOk c = true) :
    (-400 ≤ (b.1 - a.1) * (c.2 - a.2) ∧ (b.1 - a.1) * (c.2 - a.2) ≤ 400) ∧ (-400 ≤ (b.2 - a.2) * (c.1 - a.1) ∧ (b.2 - a.2) * (c.1 - a.1) ≤ 400) := by
  simp only [ptOk_true] at ha hb hc
  exact ⟨mul_bd (A := 20) (B := 20) (by omega) (by omega) (by omega) (by omega), mul_bd (A := 20) (B := 20) (by omega) (by omega) (by omega) (by omega)⟩
theorem turn_le {a b c : Int × Int} (ha : ptOk a = true) (hb : ptOk b = true) (hc : ptOk c = true) : -800 ≤ turn a b c ∧ turn a b c ≤ 800 := by
  have := turn_bd ha hb hc
  unfold turn; omega
theorem turnI_any (a b c : Int × Int) (w : World) (ha : ptOk a = true) (hb : ptOk b = true) (hc : ptOk c = true) :
    Gives Try.prog 61 #[.agg #[.int .i64 a.1, .int .i64 a.2], .agg #[.int .i64 b.1, .int .i64 b.2], .agg #[.int .i64 c.1, .int .i64 c.2]] w (.int .i64 (turn a b c)) := by
  have ⟨⟨h1, h2⟩, h3, h4⟩ := turn_bd ha hb hc
  simp only [ptOk_true] at ha hb hc
  obtain ⟨a1, a2, a3, a4⟩ := ha
  obtain ⟨b1, b2, b3, b4⟩ := hb
  obtain ⟨c1, c2, c3, c4⟩ := hc
  refine Gives.of_below ?_
  go_enter Try.func61, Try.ntmps61
  go_wp2
  go_ret
  exact ⟨rfl, (by repeat' (first | (with_reducible exact Below.refl _ _) | (with_reducible assumption) | (refine Below.via (by with_reducible assumption) ?_ ?_) | (with_reducible refine Ext.up _ ?_ ?_) | (with_reducible exact Nat.le_refl _) | (exact Below.size (by with_reducible assumption)) | (with_reducible refine Ext.le_size _ ?_) | (with_reducible refine le_alloc ?_ _) | (with_reducible refine le_setCell ?_ _ _) | (with_reducible refine le_drew ?_) | (with_reducible refine Below.alloc ?_ ?_ _) | (with_reducible refine Below.drew ?_) | (with_reducible refine Below.setCell ?_ ?_ _) | go_size | (simp [go_sem]; done) | omega | (simp [go_sem]; omega)))⟩
theorem turnS_any (a b c : Int × Int) (w : World) (ha : ptOk a = true) (hb : ptOk b = true) (hc : ptOk c = true) :
    Gives Try.prog 59 #[.agg #[.int .i64 a.1, .int .i64 a.2], .agg #[.int .i64 b.1, .int .i64 b.2], .agg #[.int .i64 c.1, .int .i64 c.2]] w (.int .i64 (turn a b c)) := by
  have ⟨⟨h1, h2⟩, h3, h4⟩ := turn_bd ha hb hc
  simp only [ptOk_true] at ha hb hc
  obtain ⟨a1, a2, a3, a4⟩ := ha
  obtain ⟨b1, b2, b3, b4⟩ := hb
  obtain ⟨c1, c2, c3, c4⟩ := hc
  refine Gives.of_below ?_
  go_enter Try.func59, Try.ntmps59
  go_wp2
  go_ret
  exact ⟨rfl, (by repeat' (first | (with_reducible exact Below.refl _ _) | (with_reducible assumption) | (refine Below.via (by with_reducible assumption) ?_ ?_) | (with_reducible refine Ext.up _ ?_ ?_) | (with_reducible exact Nat.le_refl _) | (exact Below.size (by with_reducible assumption)) | (with_reducible refine Ext.le_size _ ?_) | (with_reducible refine le_alloc ?_ _) | (with_reducible refine le_setCell ?_ _ _) | (with_reducible refine le_drew ?_) | (with_reducible refine Below.alloc ?_ ?_ _) | (with_reducible refine Below.drew ?_) | (with_reducible refine Below.setCell ?_ ?_ _) | go_size | (simp [go_sem]; done) | omega | (simp [go_sem]; omega)))⟩
end Go.Proofs.Ytbgeooalhoaemaa
