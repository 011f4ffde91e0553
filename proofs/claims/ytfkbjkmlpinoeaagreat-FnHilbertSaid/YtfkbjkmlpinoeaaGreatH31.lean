/-
  TEXTS OF THE PROOF, put together: bHilbS, bHilbP, Lay2.
-/
import Derived.Test.YtfkbjkmlpinoeaaGreatH30
import Derived.Test.YtfkbjkmlpinoeaaGreatH22
import Derived.Test.YtfkbjkmlpinoeaaGreatH28
import Derived.Shelf.SlSortCmp.WholeK
import Derived.Test.YtfkbjkmlpinoeaaGreatProg
set_option linter.unusedVariables false
set_option linter.unusedSimpArgs false
namespace Go.Proofs.YtfkbjkmlpinoeaaGreat
open Go.RowKit
theorem sumL_next {l : List Int} {i : Nat} (h : i < l.length) : (l.take (i + 1)).sum = (l.take i).sum + l.getD i 0 := by
  rw [List.take_succ_eq_append_getElem h, List.sum_append, getD_in h]; simp
theorem d_heightS (a b n ca m cv : Nat) (xs v : List Int) (zs : List Int) (hn : n = xs.length) (hm : m = v.length) (hl : xs.length ≤ 1099511627776) (hl' : v.length ≤ 1099511627776)
    (hz : prodO a b xs v = some zs) (hzl : zs.length ≤ 8) (hzb : ∀ i, i ≤ zs.length → -4000000000000000000 ≤ (zs.take i).sum ∧ (zs.take i).sum ≤ 4000000000000000000) :
    Does Tryz.prog 79 [vM a b 1 n ca, vS 2 1 0 m cv] [(1, .ro (.ints xs)), (2, .ro (.ints v))] 3 (Ret (vI zs.sum) 3) := by
  subst hn hm
  have hp := fun c1 c2 => d_prodS a b xs v c1 c2 hl hl'
  rw [hz] at hp
  refine Does.intro TT Tryz.func79 rfl (by kernel_rfl) Zz Zz fun E hE => ?_
  ((repeat' (first | refine stx ?_ | ((refine w_E (hp _ _) Zz Zz Zz Zz Zz Zz Zz ft rfl ?_); rintro w Hout n1 ⟨rfl, rfl, rfl⟩) | (refine stq ?_ ?_ <;> (intro hc; ((try simp at hc) <;> try contradiction))) | fail)) <;> try (exfalso; omega))
  refine w_G hE (fun i : Nat => i ≤ zs.length) (fun i => zs.length - i)
    (fun i => [(5, vS 4 1 0 zs.length zs.length), (7, vI (zs.take i).sum), (8, vI i)]) (fun _ => [(1, .ro (.ints xs)), (2, .ro (.ints v)), (4, .own 3 zs.length (.ints zs))]) 5 [] 0 (Nat.zero_le _) ⟨w_1, w_2, rfl⟩ ?_
  intro i hi
  have b1 := hzb i hi
  by_cases hk : i < zs.length
  · have b2 := hzb (i + 1) hk
    have e := sumL_next hk
    have e2 : zs.getD (0 + (i : Int).toNat) 0 = zs.getD i 0 := by rw [show 0 + (i : Int).toNat = i by omega]
    have e3 : (zs.take (i + 1)).sum = (zs.take i).sum + zs.getD (0 + (i : Int).toNat) 0 := by rw [e2, e]
    rw [e3] at b2
    ((repeat' (first | refine stx ?_ | (refine stq ?_ ?_ <;> (intro hc; ((try simp at hc) <;> try contradiction))) | fail)) <;> try (exfalso; omega))
    exact ⟨[], i + 1, hk, w_4, ⟨⟨rfl, congrArg some (congrArg vI e3.symm), rfl, trivial⟩, ⟨rfl, rfl, rfl, trivial⟩, rfl⟩⟩
  · obtain rfl : i = zs.length := by omega
    ((repeat' (first | refine stx ?_ | (refine stq ?_ ?_ <;> (intro hc; ((try simp at hc) <;> try contradiction))) | fail)) <;> try (exfalso; omega))
    refine fin_ret rfl w_3 (congrArg vI (by rw [List.take_of_length_le (Nat.le_refl _)])) rfl
def StepS (a b : Nat) (xs : List Int) (l : List Row) (v : List Int) (j : Int) : Prop := (j = -1 ∧ ∀ r ∈ l, inConeB a b xs (difL v r.xs) = false) ∨ ∃ k : Nat, j = k ∧ ∃ h : k < l.length, inConeB a b xs (difL v l[k].xs) = true ∧ ∀ i (hi : i < k), inConeB a b xs (difL v l[i].xs) = false
set_option maxHeartbeats 4000000 in
theorem d_stepS (a b n ca m cv c : Nat) (xs v : List Int) (l : List Row) (hn : n = xs.length) (hm : m = v.length) (hl : xs.length ≤ 1099511627776) (hv : v.length ≤ 24) (hvn : v.all numB = true) (hl4 : l.length ≤ 1000000) (hr : ∀ r ∈ l, r.xs.length = v.length ∧ r.xs.all numB = true) :
    Does Tryz.prog 81 [vM a b 1 n ca, vS 2 1 0 l.length c, vS 3 1 0 m cv] [(1, .ro (.ints xs)), (2, .ro (.rows false true l)), (3, .ro (.ints v))] 4 (fun w Hout n1 => ∃ j, w = vI j ∧ Hout = [] ∧ n1 = 4 ∧ StepS a b xs l v j) := by
  subst hn hm
  refine Does.intro TT Tryz.func81 rfl (by kernel_rfl) Zz Zz fun E hE => ?_
  ((repeat' (first | refine stx ?_ | (refine stq ?_ ?_ <;> (intro hc; ((try simp at hc) <;> try contradiction))) | fail)) <;> try (exfalso; omega))
  refine w_G hE (fun k : Nat => k ≤ l.length ∧ ∀ i (hi : i < k) (hl : i < l.length), inConeB a b xs (difL v l[i].xs) = false) (fun k => l.length - k)
    (fun k => [(1, vS 2 1 0 l.length c), (2, vS 3 1 0 v.length cv), (3, .one (.ptr 4 3 0 0)), (7, vI k)]) (fun _ => [(1, .ro (.ints xs)), (2, .ro (.rows false true l)), (3, .ro (.ints v)), (4, .own 26 1 (.lit [.int a, .int b, .sl 1 1 0 xs.length ca]))]) 5 [] 0 ⟨Nat.zero_le _, fun i hi => by omega⟩ ⟨w_1, w_2, rfl⟩ ?_
  rintro k ⟨h1, h2⟩
  by_cases hk : k < l.length
  · have e1 : l.getD (0 + (k : Int).toNat) rowD = l[k] := by rw [show 0 + (k : Int).toNat = k by omega, getD_in hk]
    obtain ⟨g1, g2⟩ := hr (l.getD (0 + (k : Int).toNat) rowD) (by rw [e1]; exact List.getElem_mem hk)
    ((repeat' (first | refine stx ?_ | (refine stq ?_ ?_ <;> (intro hc; ((try simp at hc) <;> try contradiction))) | fail)) <;> try (exfalso; omega))
    refine w_G hE (fun x : Nat × Nat => x.1 ≤ v.length ∧ x.1 ≤ x.2) (fun x => v.length - x.1)
      (fun x => [(1, vS 2 1 0 l.length c), (2, vS 3 1 0 v.length cv), (3, .one (.ptr 4 3 0 0)), (7, vI k), (8, vS 5 1 0 x.1 x.2), (9, vI x.1)]) (fun x => [(1, .ro (.ints xs)), (2, .ro (.rows false true l)), (3, .ro (.ints v)), (4, .own 26 1 (.lit [.int a, .int b, .sl 1 1 0 xs.length ca])), (5, .own 3 x.2 (.ints ((difL v (l.getD (0 + (k : Int).toNat) rowD).xs).take x.1)))]) 6 [] (0, 0) ⟨Nat.zero_le _, Nat.zero_le _⟩ ⟨w_1, w_2, rfl⟩ ?_
    rintro ⟨j, cap⟩ ⟨h3, h4⟩
    dsimp only at h3 h4
    have ln : (difL v (l.getD (0 + (k : Int).toNat) rowD).xs).length = v.length := by rw [difL_len]
    by_cases hj : j < v.length
    · have f1 := num_getD hvn (0 + (j : Int).toNat)
      have f2 := num_getD g2 (0 + (j : Int).toNat)
      have f3 := num_getD hvn j
      have f4 := num_getD g2 j
      have en : (difL v (l.getD (0 + (k : Int).toNat) rowD).xs).take (j + 1) = (difL v (l.getD (0 + (k : Int).toNat) rowD).xs).take j ++ [v.getD (0 + (j : Int).toNat) 0 - (l.getD (0 + (k : Int).toNat) rowD).xs.getD (0 + (j : Int).toNat) 0] := by
        have hkd : j < (difL v (l.getD (0 + (k : Int).toNat) rowD).xs).length := by omega
        rw [List.take_succ_eq_append_getElem hkd, ← getD_in (d := 0) hkd, difL_at hj, show 0 + (j : Int).toNat = j by omega]
      have ek : ((difL v (l.getD (0 + (k : Int).toNat) rowD).xs).take j).length = j := by rw [List.length_take]; omega
      have ln2 : (difL v (l[k]?.getD rowD).xs).length = v.length := by rw [difL_len]
      ((repeat' (first | refine stx ?_ | (refine stq ?_ ?_ <;> (intro hc; ((try simp at hc) <;> try contradiction))) | fail)) <;> try (exfalso; omega))
      refine awp_held TM [(2, _), (3, _)] sb rfl (fun ρs => ?_)
      refine zt0 ?_
      refine zt1 ?_
      refine zt2 ?_
      refine zt3 ?_
      refine zt4 ?_
      refine zt5 ?_
      refine zt6 ?_
      refine zt7 ?_
      refine zt9 ?_
      refine w_u [8] kr rfl ⟨?_, trivial⟩
      first | (refine zho ?_) | (refine w_y TT _ Zz Zz Zz Zz Zz Zz sd sb Zz Zz ?_; intro cap hcap)
      refine w_u [10] kr rfl ⟨?_, trivial⟩
      first | (refine zho ?_) | (refine w_y TT _ Zz Zz Zz Zz Zz Zz sd sb Zz Zz ?_; intro cap hcap)
      refine w_u [11] kr rfl ⟨?_, trivial⟩
      first | (refine zho ?_) | (refine w_y TT _ Zz Zz Zz Zz Zz Zz sd sb Zz Zz ?_; intro cap hcap)
      refine zt12 ?_
      refine w_u [13] kr rfl ⟨?_, trivial⟩
      first | (refine zho ?_) | (refine w_y TT _ Zz Zz Zz Zz Zz Zz sd sb Zz Zz ?_; intro cap hcap)
      refine w_u [14] kr rfl ⟨?_, trivial⟩
      first | (refine zho ?_) | (refine w_y TT _ Zz Zz Zz Zz Zz Zz sd sb Zz Zz ?_; intro cap hcap)
      refine zt15 ?_
      refine w_v kr ?_
      rotate_left
      all_goals ((repeat' (first | refine stx ?_ | (refine stq ?_ ?_ <;> (intro hc; ((try simp at hc) <;> try contradiction))) | fail)) <;> try (exfalso; omega))
      all_goals
        refine ⟨[(5, 8)], (j + 1, _), ⟨hj, by dsimp only at *; omega⟩, w_4, ⟨w_1, ⟨rfl, rfl, rfl, rfl, own_ints en.symm, trivial⟩, rfl⟩⟩
    · obtain rfl : j = v.length := by omega
      have ed : (difL v (l.getD (0 + (k : Int).toNat) rowD).xs).take v.length = difL v (l.getD (0 + (k : Int).toNat) rowD).xs := List.take_of_length_le (by omega)
      rw [ed]
      have hci := fun c1 c2 => d_inConeS a b xs (difL v (l.getD (0 + (k : Int).toNat) rowD).xs) c1 c2 hl (by omega)
      simp only [ln] at hci
      cases ci : inConeB a b xs (difL v (l.getD (0 + (k : Int).toNat) rowD).xs) with
      | true =>
        rw [ci] at hci
        ((repeat' (first | refine stx ?_ | (first | refine w_z (hci _ _) Zz Zz Zz Zz Zz Zz Zz Zz ft Zz Zz ?_ | refine w_A (hci _ _) Zz Zz Zz Zz Zz Zz Zz Zz ft Zz Zz ?_) | (refine stq ?_ ?_ <;> (intro hc; ((try simp at hc) <;> try contradiction))) | fail)) <;> try (exfalso; omega))
        exact fin rfl w_3 [] (vI k) [] 4 (⟨k, rfl, rfl, rfl, .inr ⟨k, rfl, hk, by rw [← e1]; exact ci, fun i hi => h2 i hi (by omega)⟩⟩) rfl ⟨trivial, trivial, rfl⟩ rfl
      | false =>
        rw [ci] at hci
        ((repeat' (first | refine stx ?_ | (first | refine w_z (hci _ _) Zz Zz Zz Zz Zz Zz Zz Zz ft Zz Zz ?_ | refine w_A (hci _ _) Zz Zz Zz Zz Zz Zz Zz Zz ft Zz Zz ?_) | (refine stq ?_ ?_ <;> (intro hc; ((try simp at hc) <;> try contradiction))) | fail)) <;> try (exfalso; omega))
        exact ⟨[], k + 1, ⟨hk, fun i hi hl => by
          by_cases c : i < k
          · exact h2 i c hl
          · obtain rfl : i = k := by omega
            rw [← e1]; exact ci⟩, w_4, ⟨w_1, w_2, rfl⟩⟩
  · obtain rfl : k = l.length := by omega
    ((repeat' (first | refine stx ?_ | (refine stq ?_ ?_ <;> (intro hc; ((try simp at hc) <;> try contradiction))) | fail)) <;> try (exfalso; omega))
    exact fin rfl w_3 [] (vI (-1)) [] 4 (⟨-1, rfl, rfl, rfl, .inl ⟨rfl, fun r hr' => by obtain ⟨i, hi, rfl⟩ := List.mem_iff_getElem.1 hr'; exact h2 i hi hi⟩⟩) rfl ⟨trivial, trivial, rfl⟩ rfl
end Go.Proofs.YtfkbjkmlpinoeaaGreat
namespace Go.Proofs.YtfkbjkmlpinoeaaGreat
open Go.RowKit
def grV (v : List Int) (val : Int) (l : List Row) (hs : List Int) (j : Nat) : Prop := val < hs.getD j 0 ∨ hs.getD j 0 = val ∧ cmpL v (l.getD j rowD).xs < 0
def PutR (th t : TypeId) (l : List Row) (hs : List Int) (r : Row) (val : Int) (v : AV) (Hout : List (Nat × Blk)) (n1 : Nat) : Prop :=
  ∃ (k m1 m2 c1 c2 : Nat) (l' : List Row) (hs' : List Int), k ≤ l.length ∧ (∀ j, k ≤ j → j < l.length → grV r.xs val l hs j) ∧ (k = 0 ∨ ¬ grV r.xs val l hs (k - 1)) ∧ m1 = l.length + 1 ∧ m2 = l.length + 1 ∧ l' = l.take k ++ r :: l.drop k ∧ hs' = hs.take k ++ val :: hs.drop k ∧ m1 ≤ c1 ∧ m2 ≤ c2 ∧
    v = .tup [.one (.sl 4 1 0 m1 c1), .one (.sl 5 1 0 m2 c2)] ∧ Hout = [(4, .own th c1 (.rows false false l')), (5, .own t c2 (.ints hs'))] ∧ n1 = 6
theorem put_mid {α : Type} {l : List α} {x : α} {k ca : Nat} (hk : k ≤ l.length) (hca : l.length ≤ ca) : ([] ++ (l.drop 0).take (k : Int).toNat) ++ ([x].drop 0).take 1 ++ (l.drop (slOff 0 (k : Int).toNat ca)).take (l.length - (k : Int).toNat) = l.take k ++ x :: l.drop k := by
  rw [Int.toNat_natCast, List.nil_append, List.drop_zero, List.drop_zero, List.append_assoc]
  congr 1
  rw [show [x].take 1 = [x] from rfl, List.singleton_append]
  congr 1
  unfold slOff
  split
  · rw [show l.length - k = 0 by omega, List.take_zero, List.drop_of_length_le (by omega)]
  · rw [Nat.zero_add, List.take_of_length_le (by rw [List.length_drop]; exact Nat.le_refl _)]
set_option maxRecDepth 100000 in
set_option maxHeartbeats 8000000 in
theorem d_putS (l : List Row) (hs : List Int) (a0 : Option (Nat × Nat)) (cv n c1 c2 m : Nat) (v : List Int) (val : Int) (hm : m = v.length) (hn : n = l.length) (hhs : hs.length = l.length) (hl : l.length ≤ 100000) (hv : v.length ≤ 100000) (hc1 : l.length ≤ c1) (hc2 : l.length ≤ c2) (hr : ∀ r ∈ l, r.xs.length = v.length) :
    Does Tryz.prog 80 [vS 1 1 0 l.length c1, vS 2 1 0 n c2, vS 3 1 0 m cv, vI val] [(1, .ro (.rows false true l)), (2, .ro (.ints hs)), (3, .al a0 (.ints v))] 4 (PutR 24 3 l hs ⟨a0, cv, v, []⟩ val) := by
  subst hm hn
  refine Does.intro TT Tryz.func80 rfl (by kernel_rfl) Zz Zz fun E hE => ?_
  ((repeat' (first | refine stx ?_ | (refine stq ?_ ?_ <;> (intro hc; ((try simp at hc) <;> try contradiction))) | fail)) <;> try (exfalso; omega))
  refine w_G hE (fun k : Nat => k ≤ l.length ∧ ∀ j, k ≤ j → j < l.length → grV v val l hs j) (fun k => k)
    (fun k => [(0, vS 1 1 0 l.length c1), (1, vS 2 1 0 l.length c2), (2, vS 3 1 0 v.length cv), (3, vI val), (10, vI k)]) (fun _ => [(1, .ro (.rows false true l)), (2, .ro (.ints hs)), (3, .al a0 (.ints v))]) 4 [] l.length ⟨Nat.le_refl _, fun j h1 h2 => by omega⟩ ⟨w_1, w_2, rfl⟩ ?_
  rintro k ⟨hk, he⟩
  have hof : slOff 0 (k : Int).toNat c1 + (l.length - (k : Int).toNat) ≤ l.length := by unfold slOff; split <;> omega
  have hof2 : slOff 0 (k : Int).toNat c2 + (l.length - (k : Int).toNat) ≤ hs.length := by unfold slOff; split <;> omega
  have f1 := put_mid (l := l) (x := (⟨a0, cv, v, []⟩ : Row)) (ca := c1) hk hc1
  have f2 := put_mid (l := hs) (x := val) (ca := c2) (k := k) (by omega) (by omega)
  rw [hhs] at f2
  by_cases hk0 : k = 0
  · have hcd : k = 0 ∨ ¬ grV v val l hs (k - 1) := .inl hk0
    have hkz : ¬ 0 < k := by omega
    ((repeat' (first | refine stp ?_ | (refine stq ?_ ?_ <;> (intro hc; ((try simp at hc) <;> try contradiction))) | fail)) <;> try (exfalso; omega))
    refine awp_held TM [] sb rfl (fun ρs => ?_)
    refine zt1 ?_
    refine zt2 ?_
    refine zt3 ?_
    refine zt5 ?_
    refine zt8 ?_
    refine zt9 ?_
    refine zt10 ?_
    refine w_u [0, 6] kr rfl ⟨?_, ?_, trivial⟩
    first | (refine zho ?_) | (refine w_y TT _ Zz Zz Zz Zz Zz Zz sd sb Zz Zz ?_; intro cap hcap)
    refine w_u [4, 6] kr rfl ⟨?_, ?_, trivial⟩
    first | (refine zho ?_) | (refine w_y TT _ Zz Zz Zz Zz Zz Zz sd sb Zz Zz ?_; intro cap hcap)
    refine w_u [6] kr rfl ⟨?_, trivial⟩
    first | (refine zho ?_) | (refine w_y TT _ Zz Zz Zz Zz Zz Zz sd sb Zz Zz ?_; intro cap hcap)
    refine w_u [7] kr rfl ⟨?_, trivial⟩
    first | (refine zho ?_) | (refine w_y TT _ Zz Zz Zz Zz Zz Zz sd sb Zz Zz ?_; intro cap hcap)
    refine w_u [11] kr rfl ⟨?_, trivial⟩
    first | (refine zho ?_) | (refine w_y TT _ Zz Zz Zz Zz Zz Zz sd sb Zz Zz ?_; intro cap hcap)
    refine zt12 ?_
    refine w_v kr ?_
    rotate_left
    first | (refine zho ?_) | (refine w_y TT _ Zz Zz Zz Zz Zz Zz sd sb Zz Zz ?_; intro cap hcap)
    refine w_u [4] kr rfl ⟨?_, trivial⟩
    first | (refine zho ?_) | (refine w_y TT _ Zz Zz Zz Zz Zz Zz sd sb Zz Zz ?_; intro cap hcap)
    refine w_u [7] kr rfl ⟨?_, trivial⟩
    first | (refine zho ?_) | (refine w_y TT _ Zz Zz Zz Zz Zz Zz sd sb Zz Zz ?_; intro cap hcap)
    refine w_u [11] kr rfl ⟨?_, trivial⟩
    first | (refine zho ?_) | (refine w_y TT _ Zz Zz Zz Zz Zz Zz sd sb Zz Zz ?_; intro cap hcap)
    refine zt12 ?_
    refine w_v kr ?_
    rotate_left
    first | (refine zho ?_) | (refine w_y TT _ Zz Zz Zz Zz Zz Zz sd sb Zz Zz ?_; intro cap hcap)
    refine w_u [0] kr rfl ⟨?_, trivial⟩
    first | (refine zho ?_) | (refine w_y TT _ Zz Zz Zz Zz Zz Zz sd sb Zz Zz ?_; intro cap hcap)
    refine w_u [4] kr rfl ⟨?_, trivial⟩
    first | (refine zho ?_) | (refine w_y TT _ Zz Zz Zz Zz Zz Zz sd sb Zz Zz ?_; intro cap hcap)
    refine w_u [7] kr rfl ⟨?_, trivial⟩
    first | (refine zho ?_) | (refine w_y TT _ Zz Zz Zz Zz Zz Zz sd sb Zz Zz ?_; intro cap hcap)
    refine w_u [11] kr rfl ⟨?_, trivial⟩
    first | (refine zho ?_) | (refine w_y TT _ Zz Zz Zz Zz Zz Zz sd sb Zz Zz ?_; intro cap hcap)
    refine zt12 ?_
    refine w_v kr ?_
    rotate_left
    all_goals ((repeat' (first | refine stp ?_ | (refine stq ?_ ?_ <;> (intro hc; ((try simp at hc) <;> try contradiction))) | fail)) <;> try (exfalso; omega))
    all_goals
      refine awp_held TM [] sb rfl (fun ρs => ?_)
      refine zt1 ?_
      refine zt2 ?_
      refine zt3 ?_
      refine zt5 ?_
      refine zt8 ?_
      refine zt9 ?_
      refine zt10 ?_
      refine w_u [0, 6] kr rfl ⟨?_, ?_, trivial⟩
      first | (refine zho ?_) | (refine w_y TT _ Zz Zz Zz Zz Zz Zz sd sb Zz Zz ?_; intro cap hcap)
      refine w_u [4, 6] kr rfl ⟨?_, ?_, trivial⟩
      first | (refine zho ?_) | (refine w_y TT _ Zz Zz Zz Zz Zz Zz sd sb Zz Zz ?_; intro cap hcap)
      refine w_u [6] kr rfl ⟨?_, trivial⟩
      first | (refine zho ?_) | (refine w_y TT _ Zz Zz Zz Zz Zz Zz sd sb Zz Zz ?_; intro cap hcap)
      refine w_u [7] kr rfl ⟨?_, trivial⟩
      first | (refine zho ?_) | (refine w_y TT _ Zz Zz Zz Zz Zz Zz sd sb Zz Zz ?_; intro cap hcap)
      refine w_u [11] kr rfl ⟨?_, trivial⟩
      first | (refine zho ?_) | (refine w_y TT _ Zz Zz Zz Zz Zz Zz sd sb Zz Zz ?_; intro cap hcap)
      refine zt12 ?_
      refine w_v kr ?_
      rotate_left
      first | (refine zho ?_) | (refine w_y TT _ Zz Zz Zz Zz Zz Zz sd sb Zz Zz ?_; intro cap hcap)
      refine w_u [4] kr rfl ⟨?_, trivial⟩
      first | (refine zho ?_) | (refine w_y TT _ Zz Zz Zz Zz Zz Zz sd sb Zz Zz ?_; intro cap hcap)
      refine w_u [7] kr rfl ⟨?_, trivial⟩
      first | (refine zho ?_) | (refine w_y TT _ Zz Zz Zz Zz Zz Zz sd sb Zz Zz ?_; intro cap hcap)
      refine w_u [11] kr rfl ⟨?_, trivial⟩
      first | (refine zho ?_) | (refine w_y TT _ Zz Zz Zz Zz Zz Zz sd sb Zz Zz ?_; intro cap hcap)
      refine zt12 ?_
      refine w_v kr ?_
      rotate_left
      first | (refine zho ?_) | (refine w_y TT _ Zz Zz Zz Zz Zz Zz sd sb Zz Zz ?_; intro cap hcap)
      refine w_u [0] kr rfl ⟨?_, trivial⟩
      first | (refine zho ?_) | (refine w_y TT _ Zz Zz Zz Zz Zz Zz sd sb Zz Zz ?_; intro cap hcap)
      refine w_u [4] kr rfl ⟨?_, trivial⟩
      first | (refine zho ?_) | (refine w_y TT _ Zz Zz Zz Zz Zz Zz sd sb Zz Zz ?_; intro cap hcap)
      refine w_u [7] kr rfl ⟨?_, trivial⟩
      first | (refine zho ?_) | (refine w_y TT _ Zz Zz Zz Zz Zz Zz sd sb Zz Zz ?_; intro cap hcap)
      refine w_u [11] kr rfl ⟨?_, trivial⟩
      first | (refine zho ?_) | (refine w_y TT _ Zz Zz Zz Zz Zz Zz sd sb Zz Zz ?_; intro cap hcap)
      refine zt12 ?_
      refine w_v kr ?_
      rotate_left
      all_goals ((first | refine awpL_ghost (Ghost.forget 8 Zz Zz) ?_ | refine awp_ghost (Ghost.forget 8 Zz Zz) ?_ | refine awpH_ghost (Ghost.forget 8 Zz Zz) ?_ | refine awpHop_ghost (Ghost.forget 8 Zz Zz) ?_); rintro _ _ ⟨rfl, rfl⟩)
      all_goals ((repeat' (first | refine stx ?_ | (refine stq ?_ ?_ <;> (intro hc; ((try simp at hc) <;> try contradiction))) | fail)) <;> try (exfalso; omega))
      all_goals refine fin rfl w_3 [(4, 8), (5, 13)] (.tup [.one (.sl 4 1 0 _ _), .one (.sl 5 1 0 _ _)]) [(4, .own 24 _ (.rows false false _)), (5, .own 3 _ (.ints _))] 6 ⟨k, _, _, _, _, _, _, hk, he, hcd, ?_, ?_, f1, f2, ?_, ?_, rfl, rfl, rfl⟩ rfl ⟨trivial, ⟨rfl, rfl, trivial⟩, rfl⟩ rfl <;> omega
  · have ek : (0 + ((k : Int) - 1).toNat) = k - 1 := by omega
    have hkl : k - 1 < l.length := by omega
    have hrw : (l.getD (0 + ((k : Int) - 1).toNat) rowD).xs.length = v.length := hr _ (by rw [ek, getD_in hkl]; exact List.getElem_mem hkl)
    have hls : ∀ c1 c2, Does Tryz.prog 105 [vS 1 1 0 v.length c1, vS 2 1 0 (l.getD (0 + ((k : Int) - 1).toNat) rowD).xs.length c2] [(1, .ro (.ints v)), (2, .ro (.ints (l.getD (0 + ((k : Int) - 1).toNat) rowD).xs))] 3 (Ret (vB (decide (cmpL v (l.getD (0 + ((k : Int) - 1).toNat) rowD).xs < 0))) 3) := fun c1 c2 => by
      have := d_less v (l.getD (0 + ((k : Int) - 1).toNat) rowD).xs 0 0 v.length (l.getD (0 + ((k : Int) - 1).toNat) rowD).xs.length c1 c2 hrw (by omega) (by omega) (by omega) (by omega)
      rw [lessO, subX, subX, List.drop_zero, List.drop_zero, List.take_of_length_le (Nat.le_refl _), List.take_of_length_le (by omega)] at this
      exact this
    have nxt : grV v val l hs (k - 1) → ∀ j, k - 1 ≤ j → j < l.length → grV v val l hs j := fun hg j h1 h2 => by
      by_cases c : j = k - 1
      · rw [c]; exact hg
      · exact he j (by omega) h2
    have hgr : grV v val l hs (k - 1) ↔ (val < hs[k - 1]?.getD 0 ∨ hs[k - 1]?.getD 0 = val ∧ cmpL v (l[k - 1]?.getD rowD).xs < 0) := by simp only [grV, List.getD_eq_getElem?_getD]
    have hlx : l.getD (0 + ((k : Int) - 1).toNat) rowD = l[k - 1]?.getD rowD := by rw [ek, List.getD_eq_getElem?_getD]
    by_cases hA : val < hs[k - 1]?.getD 0
    · ((repeat' (first | refine stx ?_ | (first | refine w_z (hls _ _) Zz Zz Zz Zz Zz Zz Zz Zz ft Zz Zz ?_ | refine w_A (hls _ _) Zz Zz Zz Zz Zz Zz Zz Zz ft Zz Zz ?_) | (refine stq ?_ ?_ <;> (intro hc; ((try simp at hc) <;> try contradiction))) | fail)) <;> try (exfalso; omega))
      exact ⟨[], k - 1, ⟨by omega, nxt (hgr.2 (.inl hA))⟩, by show k - 1 < k; omega, ⟨⟨rfl, rfl, rfl, rfl, congrArg some (congrArg vI (by omega)), trivial⟩, ⟨rfl, rfl, rfl, trivial⟩, rfl⟩⟩
    · by_cases hB : hs[k - 1]?.getD 0 = val
      · by_cases hC : cmpL v (l[k - 1]?.getD rowD).xs < 0
        · rw [hlx, decide_eq_true hC, ← hlx] at hls
          ((repeat' (first | refine stx ?_ | (first | refine w_z (hls _ _) Zz Zz Zz Zz Zz Zz Zz Zz ft Zz Zz ?_ | refine w_A (hls _ _) Zz Zz Zz Zz Zz Zz Zz Zz ft Zz Zz ?_) | (refine stq ?_ ?_ <;> (intro hc; ((try simp at hc) <;> try contradiction))) | fail)) <;> try (exfalso; omega))
          exact ⟨[], k - 1, ⟨by omega, nxt (hgr.2 (.inr ⟨hB, hC⟩))⟩, by show k - 1 < k; omega, ⟨⟨rfl, rfl, rfl, rfl, congrArg some (congrArg vI (by omega)), trivial⟩, ⟨rfl, rfl, rfl, trivial⟩, rfl⟩⟩
        · have hcd : k = 0 ∨ ¬ grV v val l hs (k - 1) := .inr fun h => by
            rcases hgr.1 h with e | ⟨e, e2⟩
            · exact hA e
            · exact hC e2
          rw [hlx, decide_eq_false hC, ← hlx] at hls
          ((repeat' (first | refine stp ?_ | (first | refine w_z (hls _ _) Zz Zz Zz Zz Zz Zz Zz Zz ft Zz Zz ?_ | refine w_A (hls _ _) Zz Zz Zz Zz Zz Zz Zz Zz ft Zz Zz ?_) | (refine stq ?_ ?_ <;> (intro hc; ((try simp at hc) <;> try contradiction))) | fail)) <;> try (exfalso; omega))
          refine awp_held TM [] sb rfl (fun ρs => ?_)
          refine zt1 ?_
          refine zt2 ?_
          refine zt3 ?_
          refine zt5 ?_
          refine zt8 ?_
          refine zt9 ?_
          refine zt10 ?_
          refine w_u [0, 6] kr rfl ⟨?_, ?_, trivial⟩
          first | (refine zho ?_) | (refine w_y TT _ Zz Zz Zz Zz Zz Zz sd sb Zz Zz ?_; intro cap hcap)
          refine w_u [4, 6] kr rfl ⟨?_, ?_, trivial⟩
          first | (refine zho ?_) | (refine w_y TT _ Zz Zz Zz Zz Zz Zz sd sb Zz Zz ?_; intro cap hcap)
          refine w_u [6] kr rfl ⟨?_, trivial⟩
          first | (refine zho ?_) | (refine w_y TT _ Zz Zz Zz Zz Zz Zz sd sb Zz Zz ?_; intro cap hcap)
          refine w_u [7] kr rfl ⟨?_, trivial⟩
          first | (refine zho ?_) | (refine w_y TT _ Zz Zz Zz Zz Zz Zz sd sb Zz Zz ?_; intro cap hcap)
          refine w_u [11] kr rfl ⟨?_, trivial⟩
          first | (refine zho ?_) | (refine w_y TT _ Zz Zz Zz Zz Zz Zz sd sb Zz Zz ?_; intro cap hcap)
          refine zt12 ?_
          refine w_v kr ?_
          rotate_left
          first | (refine zho ?_) | (refine w_y TT _ Zz Zz Zz Zz Zz Zz sd sb Zz Zz ?_; intro cap hcap)
          refine w_u [4] kr rfl ⟨?_, trivial⟩
          first | (refine zho ?_) | (refine w_y TT _ Zz Zz Zz Zz Zz Zz sd sb Zz Zz ?_; intro cap hcap)
          refine w_u [7] kr rfl ⟨?_, trivial⟩
          first | (refine zho ?_) | (refine w_y TT _ Zz Zz Zz Zz Zz Zz sd sb Zz Zz ?_; intro cap hcap)
          refine w_u [11] kr rfl ⟨?_, trivial⟩
          first | (refine zho ?_) | (refine w_y TT _ Zz Zz Zz Zz Zz Zz sd sb Zz Zz ?_; intro cap hcap)
          refine zt12 ?_
          refine w_v kr ?_
          rotate_left
          first | (refine zho ?_) | (refine w_y TT _ Zz Zz Zz Zz Zz Zz sd sb Zz Zz ?_; intro cap hcap)
          refine w_u [0] kr rfl ⟨?_, trivial⟩
          first | (refine zho ?_) | (refine w_y TT _ Zz Zz Zz Zz Zz Zz sd sb Zz Zz ?_; intro cap hcap)
          refine w_u [4] kr rfl ⟨?_, trivial⟩
          first | (refine zho ?_) | (refine w_y TT _ Zz Zz Zz Zz Zz Zz sd sb Zz Zz ?_; intro cap hcap)
          refine w_u [7] kr rfl ⟨?_, trivial⟩
          first | (refine zho ?_) | (refine w_y TT _ Zz Zz Zz Zz Zz Zz sd sb Zz Zz ?_; intro cap hcap)
          refine w_u [11] kr rfl ⟨?_, trivial⟩
          first | (refine zho ?_) | (refine w_y TT _ Zz Zz Zz Zz Zz Zz sd sb Zz Zz ?_; intro cap hcap)
          refine zt12 ?_
          refine w_v kr ?_
          rotate_left
          all_goals ((repeat' (first | refine stp ?_ | (refine stq ?_ ?_ <;> (intro hc; ((try simp at hc) <;> try contradiction))) | fail)) <;> try (exfalso; omega))
          all_goals
            refine awp_held TM [] sb rfl (fun ρs => ?_)
            refine zt1 ?_
            refine zt2 ?_
            refine zt3 ?_
            refine zt5 ?_
            refine zt8 ?_
            refine zt9 ?_
            refine zt10 ?_
            refine w_u [0, 6] kr rfl ⟨?_, ?_, trivial⟩
            first | (refine zho ?_) | (refine w_y TT _ Zz Zz Zz Zz Zz Zz sd sb Zz Zz ?_; intro cap hcap)
            refine w_u [4, 6] kr rfl ⟨?_, ?_, trivial⟩
            first | (refine zho ?_) | (refine w_y TT _ Zz Zz Zz Zz Zz Zz sd sb Zz Zz ?_; intro cap hcap)
            refine w_u [6] kr rfl ⟨?_, trivial⟩
            first | (refine zho ?_) | (refine w_y TT _ Zz Zz Zz Zz Zz Zz sd sb Zz Zz ?_; intro cap hcap)
            refine w_u [7] kr rfl ⟨?_, trivial⟩
            first | (refine zho ?_) | (refine w_y TT _ Zz Zz Zz Zz Zz Zz sd sb Zz Zz ?_; intro cap hcap)
            refine w_u [11] kr rfl ⟨?_, trivial⟩
            first | (refine zho ?_) | (refine w_y TT _ Zz Zz Zz Zz Zz Zz sd sb Zz Zz ?_; intro cap hcap)
            refine zt12 ?_
            refine w_v kr ?_
            rotate_left
            first | (refine zho ?_) | (refine w_y TT _ Zz Zz Zz Zz Zz Zz sd sb Zz Zz ?_; intro cap hcap)
            refine w_u [4] kr rfl ⟨?_, trivial⟩
            first | (refine zho ?_) | (refine w_y TT _ Zz Zz Zz Zz Zz Zz sd sb Zz Zz ?_; intro cap hcap)
            refine w_u [7] kr rfl ⟨?_, trivial⟩
            first | (refine zho ?_) | (refine w_y TT _ Zz Zz Zz Zz Zz Zz sd sb Zz Zz ?_; intro cap hcap)
            refine w_u [11] kr rfl ⟨?_, trivial⟩
            first | (refine zho ?_) | (refine w_y TT _ Zz Zz Zz Zz Zz Zz sd sb Zz Zz ?_; intro cap hcap)
            refine zt12 ?_
            refine w_v kr ?_
            rotate_left
            first | (refine zho ?_) | (refine w_y TT _ Zz Zz Zz Zz Zz Zz sd sb Zz Zz ?_; intro cap hcap)
            refine w_u [0] kr rfl ⟨?_, trivial⟩
            first | (refine zho ?_) | (refine w_y TT _ Zz Zz Zz Zz Zz Zz sd sb Zz Zz ?_; intro cap hcap)
            refine w_u [4] kr rfl ⟨?_, trivial⟩
            first | (refine zho ?_) | (refine w_y TT _ Zz Zz Zz Zz Zz Zz sd sb Zz Zz ?_; intro cap hcap)
            refine w_u [7] kr rfl ⟨?_, trivial⟩
            first | (refine zho ?_) | (refine w_y TT _ Zz Zz Zz Zz Zz Zz sd sb Zz Zz ?_; intro cap hcap)
            refine w_u [11] kr rfl ⟨?_, trivial⟩
            first | (refine zho ?_) | (refine w_y TT _ Zz Zz Zz Zz Zz Zz sd sb Zz Zz ?_; intro cap hcap)
            refine zt12 ?_
            refine w_v kr ?_
            rotate_left
            all_goals ((first | refine awpL_ghost (Ghost.forget 9 Zz Zz) ?_ | refine awp_ghost (Ghost.forget 9 Zz Zz) ?_ | refine awpH_ghost (Ghost.forget 9 Zz Zz) ?_ | refine awpHop_ghost (Ghost.forget 9 Zz Zz) ?_); rintro _ _ ⟨rfl, rfl⟩)
            all_goals ((repeat' (first | refine stx ?_ | (refine stq ?_ ?_ <;> (intro hc; ((try simp at hc) <;> try contradiction))) | fail)) <;> try (exfalso; omega))
            all_goals refine fin rfl w_3 [(4, 9), (5, 14)] (.tup [.one (.sl 4 1 0 _ _), .one (.sl 5 1 0 _ _)]) [(4, .own 24 _ (.rows false false _)), (5, .own 3 _ (.ints _))] 6 ⟨k, _, _, _, _, _, _, hk, he, hcd, ?_, ?_, f1, f2, ?_, ?_, rfl, rfl, rfl⟩ rfl ⟨trivial, ⟨rfl, rfl, trivial⟩, rfl⟩ rfl <;> omega
      · have hcd : k = 0 ∨ ¬ grV v val l hs (k - 1) := .inr fun h => by
          rcases hgr.1 h with e | ⟨e, e2⟩
          · exact hA e
          · exact hB e
        ((repeat' (first | refine stp ?_ | (first | refine w_z (hls _ _) Zz Zz Zz Zz Zz Zz Zz Zz ft Zz Zz ?_ | refine w_A (hls _ _) Zz Zz Zz Zz Zz Zz Zz Zz ft Zz Zz ?_) | (refine stq ?_ ?_ <;> (intro hc; ((try simp at hc) <;> try contradiction))) | fail)) <;> try (exfalso; omega))
        refine awp_held TM [] sb rfl (fun ρs => ?_)
        refine zt1 ?_
        refine zt2 ?_
        refine zt3 ?_
        refine zt5 ?_
        refine zt8 ?_
        refine zt9 ?_
        refine zt10 ?_
        refine w_u [0, 6] kr rfl ⟨?_, ?_, trivial⟩
        first | (refine zho ?_) | (refine w_y TT _ Zz Zz Zz Zz Zz Zz sd sb Zz Zz ?_; intro cap hcap)
        refine w_u [4, 6] kr rfl ⟨?_, ?_, trivial⟩
        first | (refine zho ?_) | (refine w_y TT _ Zz Zz Zz Zz Zz Zz sd sb Zz Zz ?_; intro cap hcap)
        refine w_u [6] kr rfl ⟨?_, trivial⟩
        first | (refine zho ?_) | (refine w_y TT _ Zz Zz Zz Zz Zz Zz sd sb Zz Zz ?_; intro cap hcap)
        refine w_u [7] kr rfl ⟨?_, trivial⟩
        first | (refine zho ?_) | (refine w_y TT _ Zz Zz Zz Zz Zz Zz sd sb Zz Zz ?_; intro cap hcap)
        refine w_u [11] kr rfl ⟨?_, trivial⟩
        first | (refine zho ?_) | (refine w_y TT _ Zz Zz Zz Zz Zz Zz sd sb Zz Zz ?_; intro cap hcap)
        refine zt12 ?_
        refine w_v kr ?_
        rotate_left
        first | (refine zho ?_) | (refine w_y TT _ Zz Zz Zz Zz Zz Zz sd sb Zz Zz ?_; intro cap hcap)
        refine w_u [4] kr rfl ⟨?_, trivial⟩
        first | (refine zho ?_) | (refine w_y TT _ Zz Zz Zz Zz Zz Zz sd sb Zz Zz ?_; intro cap hcap)
        refine w_u [7] kr rfl ⟨?_, trivial⟩
        first | (refine zho ?_) | (refine w_y TT _ Zz Zz Zz Zz Zz Zz sd sb Zz Zz ?_; intro cap hcap)
        refine w_u [11] kr rfl ⟨?_, trivial⟩
        first | (refine zho ?_) | (refine w_y TT _ Zz Zz Zz Zz Zz Zz sd sb Zz Zz ?_; intro cap hcap)
        refine zt12 ?_
        refine w_v kr ?_
        rotate_left
        first | (refine zho ?_) | (refine w_y TT _ Zz Zz Zz Zz Zz Zz sd sb Zz Zz ?_; intro cap hcap)
        refine w_u [0] kr rfl ⟨?_, trivial⟩
        first | (refine zho ?_) | (refine w_y TT _ Zz Zz Zz Zz Zz Zz sd sb Zz Zz ?_; intro cap hcap)
        refine w_u [4] kr rfl ⟨?_, trivial⟩
        first | (refine zho ?_) | (refine w_y TT _ Zz Zz Zz Zz Zz Zz sd sb Zz Zz ?_; intro cap hcap)
        refine w_u [7] kr rfl ⟨?_, trivial⟩
        first | (refine zho ?_) | (refine w_y TT _ Zz Zz Zz Zz Zz Zz sd sb Zz Zz ?_; intro cap hcap)
        refine w_u [11] kr rfl ⟨?_, trivial⟩
        first | (refine zho ?_) | (refine w_y TT _ Zz Zz Zz Zz Zz Zz sd sb Zz Zz ?_; intro cap hcap)
        refine zt12 ?_
        refine w_v kr ?_
        rotate_left
        all_goals ((repeat' (first | refine stp ?_ | (refine stq ?_ ?_ <;> (intro hc; ((try simp at hc) <;> try contradiction))) | fail)) <;> try (exfalso; omega))
        all_goals
          refine awp_held TM [] sb rfl (fun ρs => ?_)
          refine zt1 ?_
          refine zt2 ?_
          refine zt3 ?_
          refine zt5 ?_
          refine zt8 ?_
          refine zt9 ?_
          refine zt10 ?_
          refine w_u [0, 6] kr rfl ⟨?_, ?_, trivial⟩
          first | (refine zho ?_) | (refine w_y TT _ Zz Zz Zz Zz Zz Zz sd sb Zz Zz ?_; intro cap hcap)
          refine w_u [4, 6] kr rfl ⟨?_, ?_, trivial⟩
          first | (refine zho ?_) | (refine w_y TT _ Zz Zz Zz Zz Zz Zz sd sb Zz Zz ?_; intro cap hcap)
          refine w_u [6] kr rfl ⟨?_, trivial⟩
          first | (refine zho ?_) | (refine w_y TT _ Zz Zz Zz Zz Zz Zz sd sb Zz Zz ?_; intro cap hcap)
          refine w_u [7] kr rfl ⟨?_, trivial⟩
          first | (refine zho ?_) | (refine w_y TT _ Zz Zz Zz Zz Zz Zz sd sb Zz Zz ?_; intro cap hcap)
          refine w_u [11] kr rfl ⟨?_, trivial⟩
          first | (refine zho ?_) | (refine w_y TT _ Zz Zz Zz Zz Zz Zz sd sb Zz Zz ?_; intro cap hcap)
          refine zt12 ?_
          refine w_v kr ?_
          rotate_left
          first | (refine zho ?_) | (refine w_y TT _ Zz Zz Zz Zz Zz Zz sd sb Zz Zz ?_; intro cap hcap)
          refine w_u [4] kr rfl ⟨?_, trivial⟩
          first | (refine zho ?_) | (refine w_y TT _ Zz Zz Zz Zz Zz Zz sd sb Zz Zz ?_; intro cap hcap)
          refine w_u [7] kr rfl ⟨?_, trivial⟩
          first | (refine zho ?_) | (refine w_y TT _ Zz Zz Zz Zz Zz Zz sd sb Zz Zz ?_; intro cap hcap)
          refine w_u [11] kr rfl ⟨?_, trivial⟩
          first | (refine zho ?_) | (refine w_y TT _ Zz Zz Zz Zz Zz Zz sd sb Zz Zz ?_; intro cap hcap)
          refine zt12 ?_
          refine w_v kr ?_
          rotate_left
          first | (refine zho ?_) | (refine w_y TT _ Zz Zz Zz Zz Zz Zz sd sb Zz Zz ?_; intro cap hcap)
          refine w_u [0] kr rfl ⟨?_, trivial⟩
          first | (refine zho ?_) | (refine w_y TT _ Zz Zz Zz Zz Zz Zz sd sb Zz Zz ?_; intro cap hcap)
          refine w_u [4] kr rfl ⟨?_, trivial⟩
          first | (refine zho ?_) | (refine w_y TT _ Zz Zz Zz Zz Zz Zz sd sb Zz Zz ?_; intro cap hcap)
          refine w_u [7] kr rfl ⟨?_, trivial⟩
          first | (refine zho ?_) | (refine w_y TT _ Zz Zz Zz Zz Zz Zz sd sb Zz Zz ?_; intro cap hcap)
          refine w_u [11] kr rfl ⟨?_, trivial⟩
          first | (refine zho ?_) | (refine w_y TT _ Zz Zz Zz Zz Zz Zz sd sb Zz Zz ?_; intro cap hcap)
          refine zt12 ?_
          refine w_v kr ?_
          rotate_left
          all_goals ((first | refine awpL_ghost (Ghost.forget 8 Zz Zz) ?_ | refine awp_ghost (Ghost.forget 8 Zz Zz) ?_ | refine awpH_ghost (Ghost.forget 8 Zz Zz) ?_ | refine awpHop_ghost (Ghost.forget 8 Zz Zz) ?_); rintro _ _ ⟨rfl, rfl⟩)
          all_goals ((repeat' (first | refine stx ?_ | (refine stq ?_ ?_ <;> (intro hc; ((try simp at hc) <;> try contradiction))) | fail)) <;> try (exfalso; omega))
          all_goals refine fin rfl w_3 [(4, 8), (5, 13)] (.tup [.one (.sl 4 1 0 _ _), .one (.sl 5 1 0 _ _)]) [(4, .own 24 _ (.rows false false _)), (5, .own 3 _ (.ints _))] 6 ⟨k, _, _, _, _, _, _, hk, he, hcd, ?_, ?_, f1, f2, ?_, ?_, rfl, rfl, rfl⟩ rfl ⟨trivial, ⟨rfl, rfl, trivial⟩, rfl⟩ rfl <;> omega
end Go.Proofs.YtfkbjkmlpinoeaaGreat
namespace Go.Proofs.YtfkbjkmlpinoeaaGreat
open Go.Shelf Go.Proofs
def Tryz.l6k_ren : Go.Shelf.Ren := ⟨fun | 6 => 118 | 15 => 97 | 14 => 151 | 28 => 137 | 29 => 138 | 20 => 167 | 21 => 168 | 22 => 169 | 23 => 170 | 24 => 171 | 25 => 172 | 26 => 173 | 27 => 174 | 46 => 182 | 47 => 159 | 48 => 160 | 49 => 183 | 50 => 184 | 57 => 186 | n => n, fun | 22 => 70 | 24 => 73 | 25 => 104 | 3 => 3 | 39 => 93 | 0 => 0 | 53 => 120 | 55 => 122 | 4 => 4 | 46 => 114 | 45 => 113 | 50 => 30 | 5 => 5 | 9 => 9 | 66 => 137 | 70 => 141 | 76 => 150 | 77 => 151 | n => n, fun | n => n⟩
theorem Tryz.l6k : Go.Proofs.SlLaysF0.n6 Tryz.prog Tryz.l6k_ren := {
  mixed := by kernel_rfl
  f6 := ⟨Tryz.f118.name, by decide, Tryz.func118.trans (congrArg some (by kernel_rfl))⟩
  f14 := ⟨Tryz.f151.name, by decide, Tryz.func151.trans (congrArg some (by kernel_rfl))⟩
  f15 := Tryz.func97.trans (congrArg some (by kernel_rfl))
  f20 := ⟨Tryz.f167.name, by decide, Tryz.func167.trans (congrArg some (by kernel_rfl))⟩
  f21 := ⟨Tryz.f168.name, by decide, Tryz.func168.trans (congrArg some (by kernel_rfl))⟩
  f22 := ⟨Tryz.f169.name, by decide, Tryz.func169.trans (congrArg some (by kernel_rfl))⟩
  f23 := ⟨Tryz.f170.name, by decide, Tryz.func170.trans (congrArg some (by kernel_rfl))⟩
  f24 := ⟨Tryz.f171.name, by decide, Tryz.func171.trans (congrArg some (by kernel_rfl))⟩
  f25 := ⟨Tryz.f172.name, by decide, Tryz.func172.trans (congrArg some (by kernel_rfl))⟩
  f26 := ⟨Tryz.f173.name, by decide, Tryz.func173.trans (congrArg some (by kernel_rfl))⟩
  f27 := ⟨Tryz.f174.name, by decide, Tryz.func174.trans (congrArg some (by kernel_rfl))⟩
  f28 := Tryz.func137.trans (congrArg some (by kernel_rfl))
  f29 := Tryz.func138.trans (congrArg some (by kernel_rfl))
  f46 := ⟨Tryz.f182.name, by decide, Tryz.func182.trans (congrArg some (by kernel_rfl))⟩
  f47 := Tryz.func159.trans (congrArg some (by kernel_rfl))
  f48 := Tryz.func160.trans (congrArg some (by kernel_rfl))
  f49 := ⟨Tryz.f183.name, by decide, Tryz.func183.trans (congrArg some (by kernel_rfl))⟩
  f50 := ⟨Tryz.f184.name, by decide, Tryz.func184.trans (congrArg some (by kernel_rfl))⟩
  f57 := ⟨Tryz.f186.name, by decide, Tryz.func186.trans (congrArg some (by kernel_rfl))⟩
  t0 := Tryz.underlying0
  a0 := Tryz.isAgg0
  z0 := Tryz.sizeOf0
  v0 := Tryz.zeroValue0
  t3 := Tryz.underlying3
  a3 := Tryz.isAgg3
  z3 := Tryz.sizeOf3
  v3 := Tryz.zeroValue3
  t4 := Tryz.underlying4
  a4 := Tryz.isAgg4
  z4 := Tryz.sizeOf4
  v4 := Tryz.zeroValue4
  t5 := Tryz.underlying5
  a5 := Tryz.isAgg5
  z5 := Tryz.sizeOf5
  v5 := Tryz.zeroValue5
  t9 := Tryz.underlying9
  a9 := Tryz.isAgg9
  z9 := Tryz.sizeOf9
  v9 := Tryz.zeroValue9
  t22 := Tryz.underlying70
  a22 := Tryz.isAgg70
  z22 := Tryz.sizeOf70
  v22 := Tryz.zeroValue70
  t25 := Tryz.underlying104
  a25 := Tryz.isAgg104
  z25 := Tryz.sizeOf104
  v25 := Tryz.zeroValue104
  t39 := Tryz.underlying93
  a39 := Tryz.isAgg93
  z39 := Tryz.sizeOf93
  v39 := Tryz.zeroValue93
  t45 := Tryz.underlying113
  a45 := Tryz.isAgg113
  z45 := Tryz.sizeOf113
  v45 := Tryz.zeroValue113
  t46 := Tryz.underlying114
  a46 := Tryz.isAgg114
  z46 := Tryz.sizeOf114
  v46 := Tryz.zeroValue114
  t50 := Tryz.underlying30
  a50 := Tryz.isAgg30
  z50 := Tryz.sizeOf30
  v50 := Tryz.zeroValue30
  t53 := Tryz.underlying120
  a53 := Tryz.isAgg120
  z53 := Tryz.sizeOf120
  v53 := Tryz.zeroValue120
  t55 := Tryz.underlying122
  a55 := Tryz.isAgg122
  z55 := Tryz.sizeOf122
  v55 := Tryz.zeroValue122
  t66 := Tryz.underlying137
  a66 := Tryz.isAgg137
  z66 := Tryz.sizeOf137
  v66 := Tryz.zeroValue137
  t70 := Tryz.underlying141
  a70 := Tryz.isAgg141
  z70 := Tryz.sizeOf141
  v70 := Tryz.zeroValue141
  t76 := Tryz.underlying150
  a76 := Tryz.isAgg150
  z76 := Tryz.sizeOf150
  v76 := Tryz.zeroValue150
  t77 := Tryz.underlying151
  a77 := Tryz.isAgg151
  z77 := Tryz.sizeOf151
  v77 := Tryz.zeroValue151 }
end Go.Proofs.YtfkbjkmlpinoeaaGreat
