/-
  Plain facts on bounded integers, and small words for the walks: 'Ext W': a world in which all that lay in W lies as it did (new blocks, draws of the tape alone). Own text; no program in sight.
-/
import Derived.WalkKit
import Derived.WalkSpells
import Derived.WalkLawsBesides
import Derived.Handy
import Derived.Deep.QuietTactic
import Derived.BigQuiet
import Derived.Deep.RegionHeld3
set_option linter.unusedVariables false
set_option linter.unusedSimpArgs false
namespace Go.Proofs.Ytbgeooalhoaemaa
open Go.RowKit

theorem ret_bool {a b : Bool} (h : a = b) : Ending.returned (.bool a) = .returned (.bool b) := by rw [h]
theorem ret_int {k : IntKind} {a b : Int} (h : a = b) : Ending.returned (.int k a) = .returned (.int k b) := by rw [h]
theorem ret_val {a b : Value} (h : a = b) : Ending.returned a = .returned b := by rw [h]

/-- A world behind W in which every block of W is as it was; n blocks are new. -/
structure Ext (W : World) where
  val : World
  below : Below W.heap.size W val
  n : Nat
  size_eq : val.heap.size = W.heap.size + n

def Ext.of {W w : World} (h : Below W.heap.size W w) : Ext W := ⟨w, h, w.heap.size - W.heap.size, by have := h.size; omega⟩
def Ext.refl (W : World) : Ext W := Ext.of (Below.refl _ _)
theorem Ext.some {W w : World} (h : Below W.heap.size W w) : ∃ x : Ext W, w = x.val := ⟨Ext.of h, rfl⟩
/-- behind a name, for a loop's relation -/
def IsExt (W wr : World) : Prop := ∃ y : Ext W, wr = y.val
theorem IsExt.of {W w : World} (h : Below W.heap.size W w) : IsExt W w := Ext.some h
instance Ext.nonempty (W : World) : Nonempty (Ext W) := ⟨Ext.refl W⟩

/-- A cell that no rule looks into. -/
def farCell (w : World) (a : Addr) : Option Value := w.cell? a
def farFrozen (w : World) (a : Addr) : Bool := w.frozen? a

attribute [go_sem] Ext.size_eq
section
variable {W : World} (x : Ext W)
@[go_sem low] theorem Ext.cell (b o : Nat) : x.val.cell? ⟨b, o, none⟩ = if b < W.heap.size then W.cell? ⟨b, o, none⟩ else farCell x.val ⟨b, o, none⟩ := by
  split
  · exact x.below.cell (p := ⟨b, o, none⟩) ‹_›
  · rfl
@[go_sem low] theorem Ext.frozen (b o : Nat) : x.val.frozen? ⟨b, o, none⟩ = if b < W.heap.size then W.frozen? ⟨b, o, none⟩ else farFrozen x.val ⟨b, o, none⟩ := by
  split
  · exact x.below.frozen (p := ⟨b, o, none⟩) ‹_›
  · rfl
@[go_sem low] theorem alloc_cell (c : Array Value) (t : TypeId) (b o : Nat) : (W.alloc (.cells c t)).cell? ⟨b, o, none⟩ = if b < W.heap.size then W.cell? ⟨b, o, none⟩ else if b = W.heap.size then c[o]? else farCell (W.alloc (.cells c t)) ⟨b, o, none⟩ := by
  split
  · exact World.cell?_alloc_lt _ _ _ ‹_›
  · split
    · subst_vars; exact World.cell?_alloc_new _ _ _ _
    · rfl
@[go_sem low] theorem setCell_cell (b o b' o' : Nat) (v : Value) : (W.setCell ⟨b, o, none⟩ v).cell? ⟨b', o', none⟩ = if b = b' then (if o = o' then (W.cell? ⟨b, o, none⟩).map (fun _ => v) else W.cell? ⟨b', o', none⟩) else W.cell? ⟨b', o', none⟩ := by
  by_cases e1 : b = b'
  · by_cases e2 : o = o'
    · subst e1
      subst e2
      rw [if_pos rfl, if_pos rfl]
      cases h : W.cell? ⟨b, o, none⟩ with
      | some u => exact World.cell?_setCell_same _ _ _ h
      | none =>
        simp only [Option.map_none]
        cases h2 : (W.setCell ⟨b, o, none⟩ v).cell? ⟨b, o, none⟩ with
        | none => rfl
        | some u =>
          exfalso
          simp only [World.cell?, World.setCell, Array.getElem?_modify] at h h2
          cases hb : W.heap[b]? with
          | none => simp [hb] at h2
          | some ob => cases ob <;> simp [hb, Array.getElem?_setIfInBounds] at h h2 <;> omega
    · rw [if_pos e1, if_neg e2]; exact World.cell?_setCell_other _ _ _ _ (by intro e; injection e with _ e3 _; exact e2 e3)
  · rw [if_neg e1]; exact World.cell?_setCell_other _ _ _ _ (by intro e; injection e with e3 _ _; exact e1 e3)
theorem Ext.size : W.heap.size ≤ x.val.heap.size := x.below.size
theorem Ext.le_size {b : Nat} (h : b ≤ W.heap.size) : b ≤ x.val.heap.size := Nat.le_trans h x.below.size
theorem Ext.up {B : Nat} {w : World} (h : Below B w W) (hB : B ≤ W.heap.size) : Below B w x.val := h.trans (x.below.mono hB)
end

theorem Below.via {B B' : Nat} {w a b : World} (h : Below B' a b) (h1 : Below B w a) (hB : B ≤ B') : Below B w b := h1.trans (h.mono hB)
theorem le_alloc {b : Nat} {w : World} (h : b ≤ w.heap.size) (o : Obj) : b ≤ (w.alloc o).heap.size := by simp; omega
theorem le_setCell {b : Nat} {w : World} (h : b ≤ w.heap.size) (a : Addr) (v : Value) : b ≤ (w.setCell a v).heap.size := by simpa [World.setCell] using h
theorem le_drew {b : Nat} {w : World} (h : b ≤ w.heap.size) : b ≤ w.drew.heap.size := h

/-- What a call gives: the value v, and a world in which all old memory is as it was. -/
def Gives (P : Program) (f : FuncId) (args : Array Value) (w : World) (v : Value) : Prop :=
  Calls P f args w fun e w' => e = .returned v ∧ ∃ x : Ext w, w' = x.val

theorem Gives.calls {P : Program} {f : FuncId} {args : Array Value} {w : World} {v : Value} (h : Gives P f args w v) :
    Calls P f args w fun e w' => e = .returned v ∧ ∃ x : Ext w, w' = x.val := h
theorem Gives.of_same {P : Program} {f : FuncId} {args : Array Value} {w : World} {v : Value} (h : Calls P f args w fun e w' => e = .returned v ∧ w = w') :
    Gives P f args w v := Calls.mono h fun _ _ ⟨he, hw⟩ => ⟨he, Ext.refl w, hw.symm⟩
theorem Gives.below {P : Program} {f : FuncId} {args : Array Value} {w : World} {v : Value} (h : Gives P f args w v) :
    Calls P f args w fun e w' => e = .returned v ∧ Below w.heap.size w w' := Calls.mono h fun _ _ ⟨he, x, hw⟩ => ⟨he, hw ▸ x.below⟩
theorem Gives.of_below {P : Program} {f : FuncId} {args : Array Value} {w : World} {v : Value} (h : Calls P f args w fun e w' => e = .returned v ∧ Below w.heap.size w w') :
    Gives P f args w v := Calls.mono h fun _ _ ⟨he, hb⟩ => ⟨he, Ext.of hb, rfl⟩

/-- At a call inside a region that draws its order. -/
theorem Gives.quiet {P : Program} {f : FuncId} {args : Array Value} {W : World} {x : Ext W} {v : Value} (h : Gives P f args x.val v) :
    Calls P f args x.val fun e w'' => e = .returned v ∧ ∃ y : Ext W, w'' = y.val :=
  Calls.mono h fun _ _ ⟨he, y, hw⟩ => ⟨he, Ext.of (x.below.trans (y.below.mono x.below.size)), hw⟩
theorem quiet_same {P : Program} {f : FuncId} {args : Array Value} {W : World} {x : Ext W} {v : Value} (h : Calls P f args x.val fun e w' => e = .returned v ∧ x.val = w') :
    Calls P f args x.val fun e w'' => e = .returned v ∧ ∃ y : Ext W, w'' = y.val := (Gives.of_same h).quiet

theorem wp_region_ext {P : Program} {id : Nat} {Q : Exit → Act → World → Prop} {a : Act} {w : World} {l : List Oper} (hm : P.follows .mixedOrders = true) (hB : Region.lexB .any l.toArray = true)
    (h : wpQuiet P l.toArray (fun w' => ∃ x : Ext w, w' = x.val) (fun a' => ∀ w', (∃ x : Ext w, w' = x.val) → Q .normal a' w') l a) : (Code.region id l.toArray true).wp P Q a w :=
  wp_region_quiet (C := fun w' => ∃ x : Ext w, w' = x.val) hm hB (Ext.some (Below.refl _ _).drew) (by simpa using h)

/-- A product of bounded numbers is bounded. -/
theorem mul_bd {a b A B : Int} (h1 : -A ≤ a) (h2 : a ≤ A) (h3 : -B ≤ b) (h4 : b ≤ B) : -(A * B) ≤ a * b ∧ a * b ≤ A * B := by
  have ha : (a.natAbs : Int) ≤ A := by omega
  have hb : (b.natAbs : Int) ≤ B := by omega
  have h : ((a * b).natAbs : Int) ≤ A * B := by
    rw [Int.natAbs_mul, Int.natCast_mul]
    exact Int.mul_le_mul ha hb (Int.natCast_nonneg _) (by omega)
  omega
theorem sq_nonneg (a : Int) : 0 ≤ a * a := by
  rw [← Int.natAbs_mul_self]; exact Int.natCast_nonneg _
theorem w64 {x : Int} (h1 : -9223372036854775808 ≤ x) (h2 : x ≤ 9223372036854775807) : wrap64 x = x := by unfold wrap64; omega

end Go.Proofs.Ytbgeooalhoaemaa
