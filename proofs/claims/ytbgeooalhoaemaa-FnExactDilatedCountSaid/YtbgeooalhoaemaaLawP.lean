/-
  A slice of points that came in, read as a list. Own text.
-/
import Derived.Test.YtbgeooalhoaemaaLaw
import Derived.Test.YtbgeooalhoaemaaPoint
import Derived.Deep.SlicePairs
set_option linter.unusedVariables false
set_option linter.unusedSimpArgs false
namespace Go.Proofs.Ytbgeooalhoaemaa
open Go.ChangeShapes Go.WideShapes Go.ChangeAt Go.RowKit Go.Joins Go.Deep

set_option maxRecDepth 100000 in
theorem open_RP_arg {H : Type} {enc : TypeId × Value → H} {w : World} {v : Value} {d : DataW H} {p : List MemPlace} {b : Nat}
    (hv : Value.okWide Try.prog w .any b 31 v) (h : DataW.Trod enc Try.prog w 0 (fun _ => true) true 31 v d p) :
    ∃ (A : Option Addr) (c : Nat) (ps : List (Int × Int)), v = .slice A ps.length c ∧ ps.length ≤ 9223372036854775807 ∧ RP w A ps := by
  obtain ⟨a0, len0, cap0, rfl⟩ := okWide_slice Try.underlying31 hv
  obtain ⟨fuel, hf⟩ := h
  rcases open_slice_pairs Try.underlying31 Try.underlying71 (by kernel_rfl) rfl rfl (by kernel_rfl) (by kernel_rfl) hf with ⟨hcs, _⟩ | ⟨a, len, cap, m, n, V0, V1, D0, D1, P0, P1, hcs, _, hl, hm, hmm, _, hi⟩
  · have : Value.slice a0 len0 cap0 = .slice none 0 0 := by simpa [Value.cells] using hcs
    exact ⟨none, 0, [], this, by simp, fun h0 => absurd h0 (by simp)⟩
  · have hv : Value.slice a0 len0 cap0 = .slice (some a) len cap := by simpa [Value.cells] using hcs
    simp only [if_true] at hmm
    have hm' : cap ≤ 9223372036854775807 := by simpa [maxLen] using hm
    refine ⟨some a, cap, (List.range len).map fun i => (intOf (V0 i), intOf (V1 i)), by rw [hv]; simp, by simp; omega, fun h0 => ?_⟩
    have hlen : 0 < len := by simpa using h0
    obtain ⟨ab, aoff, aspot⟩ := a
    have hspot : aspot = none := by simpa [Addr.add] using World.cell?_spot (hi 0 (by omega)).1
    subst hspot
    refine ⟨ab, aoff, rfl, ?_, fun k hk => ?_⟩
    · have := (hi 0 (by omega)).1
      rw [add_plain] at this
      exact World.block_lt_of_cell? w _ this
    · have hk' : k < len := by simpa using hk
      obtain ⟨c1, c2, t1, t2⟩ := hi k (by omega)
      obtain ⟨x, e0, _, _⟩ := DataW.trod_int Try.underlying3 t1
      obtain ⟨y, e1, _, _⟩ := DataW.trod_int Try.underlying3 t2
      simp at e0 e1
      rw [add_plain] at c1 c2
      refine ⟨?_, ?_⟩
      · rw [c1]; simp [e0, intOf]
      · rw [Nat.add_assoc, c2]; simp [e1, intOf]
end Go.Proofs.Ytbgeooalhoaemaa
