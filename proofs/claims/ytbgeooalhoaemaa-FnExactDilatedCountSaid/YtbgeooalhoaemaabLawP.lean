/-
  A slice of points that came in, for the abstract machine.
-/
import Derived.Test.YtbgeooalhoaemaabLaw
import Derived.Test.YtbgeooalhoaemaaLawP
set_option linter.unusedVariables false
set_option linter.unusedSimpArgs false
namespace Go.Proofs.Ytbgeooalhoaemaa
open Go.ChangeShapes Go.WideShapes Go.ChangeAt Go.RowKit Go.Joins

theorem i2_at {ps : List (Int × Int)} {j : Nat} {u : SV} (h : (ps.flatMap sv2)[j]? = some u) : ∃ k, ∃ hk : k < ps.length, (j = k * 2 ∧ u = .int ps[k].1) ∨ (j = k * 2 + 1 ∧ u = .int ps[k].2) := by
  have hlt : j < ps.length * 2 := by
    have := (List.getElem?_eq_some_iff.1 h).1
    rwa [flat_len (m := 2) (f := sv2) fun _ => rfl] at this
  have hk : j / 2 < ps.length := by omega
  refine ⟨j / 2, hk, ?_⟩
  have h2 := flat_get (f := sv2) (m := 2) (fun _ => rfl) (0, 0) ps (j / 2) (j % 2) hk (Nat.mod_lt _ (by decide))
  rw [show j / 2 * 2 + j % 2 = j by omega, h] at h2
  have e : ps.getD (j / 2) (0, 0) = ps[j / 2] := by simp [hk]
  rw [e] at h2
  rcases Nat.mod_two_eq_zero_or_one j with c | c
  · left
    rw [c] at h2
    exact ⟨by omega, by simpa [sv2] using h2⟩
  · right
    rw [c] at h2
    exact ⟨by omega, by simpa [sv2] using h2⟩
theorem RP.blk {l : List (Nat × Option Addr)} {k : Nat} {A : Option Addr} {w : World} {ps : List (Int × Int)} (hR : RP w A ps) (h : lk l k = some A) : BlkOK (rhoOf l) k w (.ro (.i2 ps)) := by
  cases A with
  | none =>
    have : ¬0 < ps.length := fun h => by obtain ⟨b, off, e, _⟩ := hR h; cases e
    have hρ : rhoOf l k = none := by simp [rhoOf, h]
    simp only [BlkOK, hρ, Elts.len]
    omega
  | some a =>
    have hρ : rhoOf l k = some (a.block, a.off) := by simp [rhoOf, h]
    simp only [BlkOK, hρ]
    refine ⟨fun hl => ?_, fun j u hu => ?_⟩
    · obtain ⟨b, off, e, hb, _⟩ := hR hl
      cases e; exact hb
    · obtain ⟨k, hk, q⟩ := i2_at hu
      obtain ⟨b, off, e, _, hc⟩ := hR (by omega)
      cases e
      rcases q with ⟨rfl, rfl⟩ | ⟨rfl, rfl⟩
      · exact (hc k hk).1
      · exact (hc k hk).2
set_option maxRecDepth 100000 in
theorem open_RPS_arg {H : Type} {enc : TypeId × Value → H} {w : World} {v : Value} {d : DataW H} {p : List MemPlace} {b : Nat}
    (hv : Value.okWide Try.prog w .any b 31 v) (h : DataW.Trod enc Try.prog w 0 (fun _ => true) true 31 v d p) :
    ∃ (A : Option Addr) (c : Nat) (ps : List (Int × Int)), v = .slice A ps.length c ∧ ps.length ≤ 9223372036854775807 ∧ RP w A ps ∧ SlOK A ∧ ps.length ≤ c := by
  obtain ⟨A, c, ps, rfl, h1, h2⟩ := open_RP_arg hv h
  simp only [Value.okWide, Try.underlying31] at hv
  obtain ⟨h4, h5⟩ := okWide_spot Try.underlying31 hv
  exact ⟨A, c, ps, rfl, h1, h2, h4, h5⟩
end Go.Proofs.Ytbgeooalhoaemaa
