/-
  CONTRACTS: rows of a matrix, and two rows swapped, of both packages.
-/
import Derived.Test.YtbgeooalhoaemaabPrim
set_option linter.unusedVariables false
set_option linter.unusedSimpArgs false
namespace Go.Proofs.Ytbgeooalhoaemaa
open Go.RowKit

def swapTo (xs : List Int) (o1 o2 : Nat) : Nat → List Int
  | 0 => xs
  | k + 1 => ((swapTo xs o1 o2 k).set (o1 + k) (xs.getD (o2 + k) 0)).set (o2 + k) (xs.getD (o1 + k) 0)
theorem swapTo_len {xs : List Int} {o1 o2 : Nat} : ∀ {k : Nat}, (swapTo xs o1 o2 k).length = xs.length
  | 0 => rfl
  | k + 1 => by simp [swapTo, swapTo_len]
theorem swapTo_at {xs : List Int} {o1 o2 p : Nat} : ∀ {k : Nat}, (p < o1 ∨ o1 + k ≤ p) → (p < o2 ∨ o2 + k ≤ p) → (swapTo xs o1 o2 k).getD p 0 = xs.getD p 0
  | 0, _, _ => rfl
  | k + 1, h1, h2 => by
    have := swapTo_at (xs := xs) (o1 := o1) (o2 := o2) (p := p) (k := k) (by omega) (by omega)
    rw [swapTo, List.getD_eq_getElem?_getD, List.getElem?_set_ne (by omega), List.getElem?_set_ne (by omega), ← List.getD_eq_getElem?_getD, this]
theorem mul_nat (i c : Nat) : ((i : Int) * c).toNat = i * c := by
  have e : (i : Int) * c = ((i * c : Nat) : Int) := by simp
  rw [e]; exact Int.toNat_natCast _
def RowS (off n c : Nat) (v : AV) (Hout : List (Nat × Blk)) (n1 : Nat) : Prop := v = vS 1 1 off n c ∧ Hout = [] ∧ n1 = 2
theorem d_rowAt (r c i n ca : Nat) (xs : List Int) (hn : n = xs.length) (hx : xs.length = r * c) (hca : xs.length ≤ ca) (hr : r ≤ 24) (hc24 : c ≤ 24) (hi : i < r) : Does Try.prog 66 [vM r c 1 n ca, vI i] [(1, .ro (.ints xs))] 2 (fun v Hout n1 => ∃ cp, RowS (i * c) c cp v Hout n1) := by
  have h1 : i * c + c ≤ r * c := by
    have := Nat.mul_le_mul_right c (show i + 1 ≤ r by omega)
    rw [Nat.add_mul, Nat.one_mul] at this; exact this
  have h2 : i * c ≤ 576 := by have := Nat.mul_le_mul (show i ≤ 24 by omega) hc24; omega
  have e1 : (i : Int) * c = ((i * c : Nat) : Int) := by simp
  have e2 : ((i : Int) + 1) * c = ((i * c + c : Nat) : Int) := by rw [Int.add_mul, e1]; simp
  refine Does.intro TT Try.func66 rfl (by kernel_rfl) rfl rfl fun E hE => ?_
  ((repeat' (first | (refine awpL_step TT rfl rfl rfl sd ?_) | (refine awpL_nil ?_) | (refine awpL_skip rfl rfl ?_) | (refine awpQ_step TT rfl rfl rfl rfl sd ?_) | (refine awpQ_nil ?_) | (refine awpQ_skip rfl rfl ?_) | (refine awp_seq ?_) | (refine awp_region ?_) | (refine awp_block ?_) | (refine awp_exit ?_) | (refine awp_skip ?_) | (refine awp_ret ?_) | (refine awp_cond_t rfl ?_) | (refine awp_cond_f rfl ?_) | (refine awp_quiet TM rfl (by kernel_rfl) ?_) | ((first | refine awpL_split rfl rfl rfl (fun hc => ?_) (fun hc => ?_) | refine awpQ_split rfl rfl rfl (fun hc => ?_) (fun hc => ?_) | refine awp_cond rfl (fun hc => ?_) (fun hc => ?_)) <;> ((try simp at hc) <;> try contradiction)))) <;> try (exfalso; omega))
  have hoff : slOff 0 ((i : Int) * c).toNat ca = i * c := by
    rw [mul_nat]
    unfold slOff
    split
    · rename_i h0
      have : i * c = 0 ∨ 0 < c := by
        rcases Nat.eq_zero_or_pos c with q | q
        · left; rw [q]; rfl
        · exact .inr q
      omega
    · omega
  have hlen : (((i : Int) + 1) * c).toNat - ((i : Int) * c).toNat = c := by rw [e2, e1]; omega
  refine fin rfl (by repeat' (first | exact trivial | exact Nat.zero_lt_one | omega | refine ⟨?_, ?_⟩)) [] (vS 1 1 (i * c) c (ca - ((i : Int) * c).toNat)) [] 2 ⟨_, rfl, rfl, rfl⟩ ?_ ⟨trivial, trivial, rfl⟩ rfl
  show AV.one (.sl 1 1 (slOff 0 ((i : Int) * c).toNat ca) ((((i : Int) + 1) * c).toNat - ((i : Int) * c).toNat) (ca - ((i : Int) * c).toNat)) = _
  rw [hoff, hlen]; rfl
theorem row_apart {p t c : Nat} (h : p ≠ t) : p * c + c ≤ t * c ∨ t * c + c ≤ p * c := by
  rcases Nat.lt_or_ge p t with q | q
  · left
    have := Nat.mul_le_mul_right c (show p + 1 ≤ t by omega)
    rw [Nat.add_mul, Nat.one_mul] at this; exact this
  · right
    have := Nat.mul_le_mul_right c (show t + 1 ≤ p by omega)
    rw [Nat.add_mul, Nat.one_mul] at this; exact this
theorem row_in {p r c : Nat} (h : p < r) : p * c + c ≤ r * c := by
  have := Nat.mul_le_mul_right c (show p + 1 ≤ r by omega)
  rw [Nat.add_mul, Nat.one_mul] at this; exact this
theorem cell_nat {p k c : Nat} : 0 + ((p : Int) * c + k).toNat = p * c + k := by
  have e : ((p : Int) * c + k) = ((p * c + k : Nat) : Int) := by simp
  rw [e]; omega
set_option maxHeartbeats 2000000 in
theorem d_swapS (r c p t n ca cap : Nat) (xs : List Int) (hn : n = xs.length) (hx : xs.length = r * c) (hr : r ≤ 24) (hc24 : c ≤ 24) (hp : p < r) (ht : t < r) (hne : p ≠ t) :
    Does Try.prog 103 [vM r c 1 n ca, .agg [.int 0, .int p, .int t, .int 0]] [(1, .own 3 cap (.ints xs))] 2 (SetM 3 cap (swapTo xs (p * c) (t * c) c)) := by
  have ha := row_apart (c := c) hne
  have h1 := row_in (c := c) hp
  have h2 := row_in (c := c) ht
  refine Does.intro TT Try.func103 rfl (by kernel_rfl) rfl rfl fun E hE => ?_
  ((repeat' (first | (refine awpL_step TT rfl rfl rfl sd ?_) | (refine awpL_nil ?_) | (refine awpL_skip rfl rfl ?_) | (refine awpQ_step TT rfl rfl rfl rfl sd ?_) | (refine awpQ_nil ?_) | (refine awpQ_skip rfl rfl ?_) | (refine awp_seq ?_) | (refine awp_region ?_) | (refine awp_block ?_) | (refine awp_exit ?_) | (refine awp_skip ?_) | (refine awp_ret ?_) | (refine awp_cond_t rfl ?_) | (refine awp_cond_f rfl ?_) | (refine awp_quiet TM rfl (by kernel_rfl) ?_) | ((first | refine awpL_split rfl rfl rfl (fun hc => ?_) (fun hc => ?_) | refine awpQ_split rfl rfl rfl (fun hc => ?_) (fun hc => ?_) | refine awp_cond rfl (fun hc => ?_) (fun hc => ?_)) <;> ((try simp at hc) <;> try contradiction)))) <;> try (exfalso; omega))
  refine awp_loop hE (fun k : Nat => k ≤ c) (fun k => c - k)
    (fun k => [(2, .one (.ptr 2 3 0 0)), (3, .one (.ptr 3 4 0 0)), (4, vI k)]) (fun k => [(1, .own 3 cap (.ints (swapTo xs (p * c) (t * c) k))), (2, .own 27 1 (.lit [.int r, .int c, .sl 1 1 0 n ca])), (3, .own 110 1 (.lit [.int 0, .int p, .int t, .int 0]))]) 4 [] 0 (Nat.zero_le _) ⟨(by repeat' (first | exact trivial | refine ⟨rfl, ?_⟩ | refine ⟨congrArg some (congrArg vI (by first | omega | (simp; done) | (simp; omega))), ?_⟩ | refine ⟨sl_eqA (by first | omega | (simp; done) | (simp; omega)), ?_⟩)), (by repeat' (first | exact trivial | refine ⟨rfl, ?_⟩)), rfl⟩ ?_
  intro k hk
  have hlen : (swapTo xs (p * c) (t * c) k).length = xs.length := swapTo_len
  by_cases hkc : k < c
  · have b1 := cell_facts hp hkc hr hc24
    have b2 := cell_facts ht hkc hr hc24
    have e1 := cell_nat (p := p) (k := k) (c := c)
    have e2 := cell_nat (p := t) (k := k) (c := c)
    have a1 := swapTo_at (xs := xs) (o1 := p * c) (o2 := t * c) (p := p * c + k) (k := k) (by omega) (by omega)
    have a2 := swapTo_at (xs := xs) (o1 := p * c) (o2 := t * c) (p := t * c + k) (k := k) (by omega) (by omega)
    ((repeat' (first | (refine awpL_step TT rfl rfl rfl sd ?_) | (refine awpL_nil ?_) | (refine awpL_skip rfl rfl ?_) | (refine awpQ_step TT rfl rfl rfl rfl sd ?_) | (refine awpQ_nil ?_) | (refine awpQ_skip rfl rfl ?_) | (refine awp_seq ?_) | (refine awp_region ?_) | (refine awp_block ?_) | (refine awp_exit ?_) | (refine awp_skip ?_) | (refine awp_ret ?_) | (refine awp_cond_t rfl ?_) | (refine awp_cond_f rfl ?_) | (refine awp_quiet TM rfl (by kernel_rfl) ?_) | ((first | refine awpL_split rfl rfl rfl (fun hc => ?_) (fun hc => ?_) | refine awpQ_split rfl rfl rfl (fun hc => ?_) (fun hc => ?_) | refine awp_cond rfl (fun hc => ?_) (fun hc => ?_)) <;> ((try simp at hc) <;> try contradiction)))) <;> try (exfalso; omega))
    refine ⟨[], k + 1, hkc, (by first | omega | (dsimp only; omega)), ⟨(by repeat' (first | exact trivial | refine ⟨rfl, ?_⟩ | refine ⟨congrArg some (congrArg vI (by first | omega | (simp; done) | (simp; omega))), ?_⟩ | refine ⟨sl_eqA (by first | omega | (simp; done) | (simp; omega)), ?_⟩)), ⟨own_ints ?_, rfl, rfl, trivial⟩, rfl⟩⟩
    rw [e1, e2, a1, a2]; rfl
  · obtain rfl : k = c := by omega
    ((repeat' (first | (refine awpL_step TT rfl rfl rfl sd ?_) | (refine awpL_nil ?_) | (refine awpL_skip rfl rfl ?_) | (refine awpQ_step TT rfl rfl rfl rfl sd ?_) | (refine awpQ_nil ?_) | (refine awpQ_skip rfl rfl ?_) | (refine awp_seq ?_) | (refine awp_region ?_) | (refine awp_block ?_) | (refine awp_exit ?_) | (refine awp_skip ?_) | (refine awp_ret ?_) | (refine awp_cond_t rfl ?_) | (refine awp_cond_f rfl ?_) | (refine awp_quiet TM rfl (by kernel_rfl) ?_) | ((first | refine awpL_split rfl rfl rfl (fun hc => ?_) (fun hc => ?_) | refine awpQ_split rfl rfl rfl (fun hc => ?_) (fun hc => ?_) | refine awp_cond rfl (fun hc => ?_) (fun hc => ?_)) <;> ((try simp at hc) <;> try contradiction)))) <;> try (exfalso; omega))
    exact fin_n rfl (by repeat' (first | exact trivial | exact Nat.zero_lt_one | omega | refine ⟨?_, ?_⟩)) [] (.tup []) [(1, .own 3 cap (.ints (swapTo xs (p * k) (t * k) k)))] 2 ⟨rfl, rfl, rfl⟩ rfl ⟨trivial, ⟨rfl, trivial⟩, rfl⟩ rfl
def CopyM (r c : Int) (xs : List Int) (k : Nat) (t : TypeId) (v : AV) (Hout : List (Nat × Blk)) (n1 : Nat) : Prop := ∃ cap, xs.length ≤ cap ∧ v = .agg [.int r, .int c, .sl k 1 0 xs.length cap] ∧ Hout = [(k, .own t cap (.ints xs))] ∧ n1 = k + 1
theorem CopyM.out {r c : Int} {xs : List Int} {k : Nat} {t : TypeId} : ∀ v Hout n1, CopyM r c xs k t v Hout n1 → ∃ b, Hout = [(k, b)] ∧ n1 = k + 1 ∧ b.keys = [] := fun _ _ _ ⟨_, _, _, h2, h3⟩ => ⟨_, h2, h3, by simp [Blk.keys, Elts.keys, Elts.all, ints_keys]⟩
end Go.Proofs.Ytbgeooalhoaemaa
