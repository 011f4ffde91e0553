/-
  A code that came in, whose bytes lie from 0 to 255, as the abstract machine reads it.
-/
import Derived.Test.YtekpamojojfplaaGreatD21
set_option linter.unusedVariables false
set_option linter.unusedSimpArgs false
namespace Go.Proofs.YtekpamojojfplaaGreat
open Go.ChangeShapes Go.WideShapes Go.ChangeAt Go.RowKit Go.Joins

set_option maxRecDepth 100000 in
theorem open_RBr {H : Type} {enc : TypeId × Value → H} {w : World} {fuel : Nat} {cs : List Value} {x : DataW H × List MemPlace}
    (h : DataW.trod enc Tryz.prog w 0 (fun _ => true) true fuel 22 cs = some x) :
    ∃ (A : Option Addr) (c : Nat) (xs : List Int), cs = [.slice A xs.length c] ∧ xs.length ≤ 9223372036854775807 ∧ RB w A xs ∧ ∀ n ∈ xs, 0 ≤ n ∧ n ≤ 255 := by
  rcases open_ints Tryz.underlying22 Tryz.underlying5 (by kernel_rfl) h with ⟨rfl, _⟩ | ⟨a, len, cap, zs, rfl, _, hl, hm, hz, _, hc, hw⟩
  · exact ⟨none, 0, [], rfl, by simp, fun h => absurd h (by simp), by simp⟩
  · simp only [if_true] at hz
    have hm' : cap ≤ 9223372036854775807 := by simpa [maxLen] using hm
    refine ⟨some a, cap, zs.take len, by simp; omega, by simp; omega, fun h0 => ?_, fun n hn => by
      have := hw n (List.mem_of_mem_take hn)
      simpa [Lit.wf, IntKind.min, IntKind.max, IntKind.signed, IntKind.bits] using this⟩
    have hlen : len ≤ zs.length := by omega
    obtain ⟨b, off, rfl, hc'⟩ := ints_at hc (by simp at h0; omega)
    refine ⟨b, off, rfl, World.block_lt_of_cell? w ⟨b, off + 0, none⟩ (hc' 0 (by simp at h0; omega)), fun k hk => ?_⟩
    have hk' : k < zs.length := by simp at hk; omega
    rw [hc' k hk']
    simp [hk']
set_option maxRecDepth 100000 in
theorem open_RBr_arg {H : Type} {enc : TypeId × Value → H} {w : World} {v : Value} {d : DataW H} {p : List MemPlace} {b : Nat}
    (hv : Value.okWide Tryz.prog w .any b 22 v) (h : DataW.Trod enc Tryz.prog w 0 (fun _ => true) true 22 v d p) :
    ∃ (A : Option Addr) (c : Nat) (xs : List Int), v = .slice A xs.length c ∧ xs.length ≤ 9223372036854775807 ∧ RB w A xs ∧ SlOK A ∧ xs.length ≤ c ∧ ∀ n ∈ xs, 0 ≤ n ∧ n ≤ 255 := by
  obtain ⟨a0, len, cap, rfl⟩ := okWide_slice Tryz.underlying22 hv
  obtain ⟨fuel, hf⟩ := h
  obtain ⟨A, c, xs, hcs, h1, h2, h3⟩ := open_RBr hf
  have : Value.slice a0 len cap = .slice A xs.length c := by simpa [Value.cells] using hcs
  cases this
  simp only [Value.okWide, Tryz.underlying22] at hv
  obtain ⟨h4, h5⟩ := okWide_spot Tryz.underlying22 hv
  exact ⟨_, _, xs, rfl, h1, h2, h4, h5, h3⟩
/-- A law over a code whose bytes are bytes. -/
theorem code_givesR {f : FuncId} (h : ∀ (bs : List Int) (c : Nat), (∀ k : Nat, 0 ≤ bs.getD k 0 ∧ bs.getD k 0 ≤ 255) → Does Tryz.prog f [vS 1 1 0 bs.length c] [(1, .ro (.bytes bs))] 2 (Ret (vB true) 2)) (A : Option Addr) (c : Nat) (bs : List Int) (w : World) (hR : RB w A bs) (hs : SlOK A) (hb : ∀ n ∈ bs, 0 ≤ n ∧ n ≤ 255) : Gives Tryz.prog f #[.slice A bs.length c] w (.bool true) := by
  have h1 : roIn [(1, .ro (.bytes bs))] 2 = true := by simp [roIn, plainB, Elts.flag, Blk.keys, Elts.keys, Elts.all, bytes_keys]
  have h2 : BlksOK (rhoOf [(1, A)]) w [(1, .ro (.bytes bs))] := ⟨hR.blk (l := [(1, A)]) (k := 1) rfl, trivial⟩
  have hb' : ∀ k : Nat, 0 ≤ bs.getD k 0 ∧ bs.getD k 0 ≤ 255 := fun k => by
    rw [List.getD_eq_getElem?_getD]
    cases hk : bs[k]? with
    | none => simp
    | some n => exact hb n (List.mem_of_getElem? hk)
  have h := Does.gives (h bs c hb') (rhoOf [(1, A)]) w rfl (by decide) h1 h2 rfl rfl
  have e1 : adr (rhoOf [(1, A)]) 1 0 = A := rhoOf_adr hs rfl
  have e2 : ([vS 1 1 0 bs.length c].map (AV.conc (rhoOf [(1, A)]))).toArray = #[.slice A bs.length c] := by simp [AV.conc, SV.conc, vS, e1]
  rw [e2] at h
  exact h
end Go.Proofs.YtekpamojojfplaaGreat
