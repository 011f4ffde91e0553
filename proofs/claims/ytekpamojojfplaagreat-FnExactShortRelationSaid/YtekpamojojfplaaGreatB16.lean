/-
  TEXTS OF THE PROOF, put together: bWork2.
-/
import Derived.Test.YtekpamojojfplaaGreatB15
set_option linter.unusedVariables false
set_option linter.unusedSimpArgs false
namespace Go.Proofs.YtekpamojojfplaaGreat
open Go.RowKit
theorem alone_no {xs : List Int} {c t j p n k : Nat} (h : k < n) (hp : t + k ≠ p) (h0 : xs.getD ((t + k) * c + j) 0 ≠ 0) : (!decide (alone xs c t j p n)) = true := by rw [decide_eq_false fun ha => h0 (ha k h hp)]; rfl
theorem alone_next {xs : List Int} {c t j p n : Nat} (h : alone xs c t j p n) (h1 : t + n = p ∨ xs.getD ((t + n) * c + j) 0 = 0) : alone xs c t j p (n + 1) := fun i hi hip => by
  rcases Nat.lt_or_ge i n with e | e
  · exact h i e hip
  · obtain rfl : i = n := by omega
    exact h1.resolve_left hip
set_option maxHeartbeats 2000000 in
theorem d_othersI (a b t p j nx cx cu cv : Nat) (bad : Bool) (xs : List Int) (hn : nx = xs.length) (hx : xs.length = a * b) (hnum : xs.all numB = true) (ha : a ≤ 24) (hb : b ≤ 24) (ht : t ≤ a) (hj : j < b) :
    Does Tryz.prog 157 [vW, vI t, vI p, vI j] [(2, .ro (.lit (workL 3 4 5 a b nx cx cu cv bad))), (3, .ro (.ints xs))] 6 (Ret (vB (!decide (alone xs b t j p (a - t)))) 6) := by
  subst hn
  refine Does.intro TT Tryz.func157 rfl (by kernel_rfl) Zz Zz fun E hE => ?_
  ((repeat' (first | refine stx ?_ | (refine stq ?_ ?_ <;> (intro hc; ((try simp at hc) <;> try contradiction))) | fail)) <;> try (exfalso; omega))
  refine w_G hE (fun n : Nat => t + n ≤ a ∧ alone xs b t j p n) (fun n => a - (t + n))
    (fun n => [(0, vW), (2, vI p), (3, vI j), (9, vI ((t + n : Nat) : Int))]) (fun _ => [(2, .ro (.lit (workL 3 4 5 a b xs.length cx cu cv bad))), (3, .ro (.ints xs))]) 6 [] 0 ⟨by omega, fun i hi => by omega⟩ ⟨w_1, w_2, rfl⟩ ?_
  rintro n ⟨hn, hal⟩
  by_cases hna : t + n < a
  · have hcell := cell_facts hna hj ha hb
    have hab : a * b ≤ 24 * 24 := Nat.mul_le_mul ha hb
    have ecell := cell_nat (p := t + n) (k := j) (c := b)
    have hd := d_at a b (t + n : Nat) j xs cx (by omega) (by omega) (by omega) (by omega)
    rw [ecell] at hd
    have b1 := num_getD hnum ((t + n) * b + j)
    have w1 : xs[(t + n) * b + j]?.getD 0 = xs.getD ((t + n) * b + j) 0 := by simp
    by_cases h0 : t + n = p ∨ xs.getD ((t + n) * b + j) 0 = 0
    · have hal' := alone_next hal h0
      ((repeat' (first | refine stx ?_ | refine zqc (hd) ?_ | (refine stq ?_ ?_ <;> (intro hc; ((try simp at hc) <;> try contradiction))) | fail)) <;> try (exfalso; omega))
      all_goals exact ⟨[], n + 1, ⟨by omega, hal'⟩, w_4, ⟨⟨rfl, rfl, rfl, congrArg some (congrArg vI (by omega)), trivial⟩, ⟨rfl, rfl, trivial⟩, rfl⟩⟩
    · have hF := alone_no (n := a - t) (show n < a - t by omega) (fun h => h0 (.inl h)) (fun h => h0 (.inr h))
      rw [hF]
      ((repeat' (first | refine stx ?_ | refine zqc (hd) ?_ | (refine stq ?_ ?_ <;> (intro hc; ((try simp at hc) <;> try contradiction))) | fail)) <;> try (exfalso; omega))
      all_goals refine fin_ret rfl w_3 (rfl) rfl
  · obtain rfl : n = a - t := by omega
    have hT : (!decide (alone xs b t j p (a - t))) = false := by rw [decide_eq_true hal]; rfl
    have e : t + (a - t) = a := by omega
    have e' : ((t + (a - t) : Nat) : Int) = a := by omega
    rw [e']
    rw [hT]
    ((repeat' (first | refine stx ?_ | (refine stq ?_ ?_ <;> (intro hc; ((try simp at hc) <;> try contradiction))) | fail)) <;> try (exfalso; omega))
    all_goals refine fin_ret rfl w_3 (rfl) rfl
end Go.Proofs.YtekpamojojfplaaGreat
