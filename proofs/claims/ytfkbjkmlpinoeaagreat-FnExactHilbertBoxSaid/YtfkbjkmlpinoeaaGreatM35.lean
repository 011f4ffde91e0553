/-
  TEXTS OF THE PROOF, put together: bPart.
-/
import Derived.Test.YtfkbjkmlpinoeaaGreatM20
import Derived.Test.YtfkbjkmlpinoeaaGreatM34
import Derived.Test.YtfkbjkmlpinoeaaGreatM23
set_option linter.unusedVariables false
set_option linter.unusedSimpArgs false
namespace Go.Proofs.YtfkbjkmlpinoeaaGreat
open Go.RowKit

/-- the first i rows taken out, and of the next one j cells -/
def partP (xs : List Int) (c : Nat) (is : List Nat) (i j : Nat) : List Int := pickR xs c (is.take i) ++ (xs.drop (is.getD i 0 * c)).take j
theorem partP_zero {xs : List Int} {c : Nat} {is : List Nat} {i : Nat} : partP xs c is i 0 = pickR xs c (is.take i) := by simp [partP]
theorem partP_next {xs : List Int} {r c : Nat} {is : List Nat} {i j : Nat} (hx : xs.length = r * c) (hi : is.getD i 0 < r) (hj : j < c) : partP xs c is i (j + 1) = partP xs c is i j ++ [xs.getD (is.getD i 0 * c + j) 0] := by
  have h1 := row_in (c := c) hi
  have h2 : j < (xs.drop (is.getD i 0 * c)).length := by rw [List.length_drop]; omega
  have e : xs.getD (is.getD i 0 * c + j) 0 = (xs.drop (is.getD i 0 * c))[j] := by rw [List.getElem_drop, getD_in (by omega)]
  rw [partP, partP, List.take_succ_eq_append_getElem h2, List.append_assoc, e]
theorem partP_row {xs : List Int} {c : Nat} {is : List Nat} {i : Nat} (hi : i < is.length) : partP xs c is i c = pickR xs c (is.take (i + 1)) := by
  rw [partP, List.take_succ_eq_append_getElem hi, getD_in hi]
  simp only [pickR, List.flatMap_append, List.flatMap_cons, List.flatMap_nil, List.append_nil]
theorem partP_len {xs : List Int} {r c : Nat} {is : List Nat} {i j : Nat} (hx : xs.length = r * c) (h : ∀ p ∈ is, p < r) (hi : i < is.length) (hj : j ≤ c) : (partP xs c is i j).length = i * c + j := by
  have h1 := row_in (c := c) (h _ (List.getElem_mem hi))
  have h2 := pickR_len hx (is := is.take i) fun p hp => h p (List.mem_of_mem_take hp)
  rw [partP, List.length_append, h2, List.length_take (l := is), Nat.min_eq_left (by omega : i ≤ is.length), List.length_take, List.length_drop, getD_in hi, Nat.min_eq_left (by omega)]
theorem own_litP {t : TypeId} {c : Nat} {x x' y : Int} {k k' a b cp : Nat} {m : Nat → Nat} (hx : x = x') (h : a = b) (hk : k' = m k := by rfl) : some (Blk.own t c (.lit [.int x, .int y, .sl k' 1 0 a cp])) = some ((Blk.own t c (.lit [.int x', .int y, .sl k 1 0 b cp])).ren m) := by subst hx h hk; rfl
theorem natsI_getD {is : List Nat} {i : Nat} : (natsI is).getD i 0 = ((is.getD i 0 : Nat) : Int) := by
  simp only [natsI, List.getD_eq_getElem?_getD, List.getElem?_map]
  cases is[i]? <;> simp
theorem range_getD {n i : Nat} (h : i < n) : (List.range n).getD i 0 = i := by rw [getD_in (by simpa using h)]; simp
set_option maxRecDepth 100000 in
set_option maxHeartbeats 4000000 in
theorem d_part (r c : Nat) (xs : List Int) (is : List Nat) (ca cp cq n m k : Nat) (hn : n = xs.length) (hm : m = is.length) (hk : k = c) (hx : xs.length = r * c) (hr : r ≤ 24) (hc24 : c ≤ 24) (his : ∀ i ∈ is, i < r) (hil : is.length ≤ 24) :
    Does Tryz.prog 61 [vM r c 1 n ca, vS 2 1 0 m cp, vS 3 1 0 k cq] [(1, .ro (.ints xs)), (2, .ro (.ints (natsI is))), (3, .ro (.ints (natsI (List.range c))))] 4 (FromR is.length c 3 (pickR xs c is) 4) := by
  subst hn hm hk
  refine Does.intro TT Tryz.func61 rfl (by kernel_rfl) rfl rfl fun E hE => ?_
  ((repeat' (first | refine w_a TT rfl rfl rfl sd ?_ | refine w_b ?_ | refine w_c rfl rfl ?_ | refine w_d TT rfl rfl rfl rfl sd ?_ | refine w_e ?_ | refine w_f rfl rfl ?_ | refine w_g ?_ | refine w_h ?_ | refine w_i ?_ | refine w_j ?_ | refine w_k ?_ | refine w_l ?_ | refine w_m rfl ?_ | refine w_n rfl ?_ | refine w_o TM rfl kr ?_ | ((first | refine w_p rfl rfl rfl (fun hc => ?_) (fun hc => ?_) | refine w_q rfl rfl rfl (fun hc => ?_) (fun hc => ?_) | refine w_r rfl (fun hc => ?_) (fun hc => ?_)) <;> ((try simp at hc) <;> try contradiction)))) <;> try (exfalso; omega))
  refine awp_nil (k := 6) (f := 2) (sz := 1) (et := 3) (e0 := .ints []) rfl rfl rfl rfl (fun _ h => by cases h) ?_
  refine w_G hE (fun i : Nat × Nat => i.1 ≤ is.length ∧ (pickR xs k (is.take i.1)).length ≤ i.2) (fun i => is.length - i.1)
    (fun i => [(1, vS 2 1 0 is.length cp), (2, vS 3 1 0 k cq), (3, .one (.ptr 4 3 0 0)), (6, .one (.ptr 5 3 0 0)), (7, .one (.ptr 6 3 0 0)), (8, vI i.1)])
    (fun i => [(1, .ro (.ints xs)), (2, .ro (.ints (natsI is))), (3, .ro (.ints (natsI (List.range k)))), (4, .own 26 1 (.lit [.int r, .int k, .sl 1 1 0 xs.length ca])), (5, .own 26 1 (.lit zeroM)), (6, .own 26 1 (.lit [.int is.length, .int k, .sl 7 1 0 (pickR xs k (is.take i.1)).length i.2])), (7, .own 3 i.2 (.ints (pickR xs k (is.take i.1))))]) 8 [] (0, 0) ⟨Nat.zero_le _, Nat.zero_le _⟩ ⟨w_1, w_2, rfl⟩ ?_
  rintro ⟨i, cap⟩ ⟨hi, hcap⟩
  dsimp only at hi hcap
  have hxs : xs.length ≤ 576 := by rw [hx]; exact Nat.mul_le_mul hr hc24
  by_cases hik : i < is.length
  · ((repeat' (first | refine w_a TT rfl rfl rfl sd ?_ | refine w_b ?_ | refine w_c rfl rfl ?_ | refine w_d TT rfl rfl rfl rfl sd ?_ | refine w_e ?_ | refine w_f rfl rfl ?_ | refine w_g ?_ | refine w_h ?_ | refine w_i ?_ | refine w_j ?_ | refine w_k ?_ | refine w_l ?_ | refine w_m rfl ?_ | refine w_n rfl ?_ | refine w_o TM rfl kr ?_ | ((first | refine w_p rfl rfl rfl (fun hc => ?_) (fun hc => ?_) | refine w_q rfl rfl rfl (fun hc => ?_) (fun hc => ?_) | refine w_r rfl (fun hc => ?_) (fun hc => ?_)) <;> ((try simp at hc) <;> try contradiction)))) <;> try (exfalso; omega))
    refine w_G hE (fun x : Nat × Nat => x.1 ≤ k ∧ (partP xs k is i x.1).length ≤ x.2) (fun x => k - x.1)
      (fun x => [(1, vS 2 1 0 is.length cp), (2, vS 3 1 0 k cq), (3, .one (.ptr 4 3 0 0)), (6, .one (.ptr 5 3 0 0)), (7, .one (.ptr 6 3 0 0)), (8, vI i), (9, vI x.1)])
      (fun x => [(1, .ro (.ints xs)), (2, .ro (.ints (natsI is))), (3, .ro (.ints (natsI (List.range k)))), (4, .own 26 1 (.lit [.int r, .int k, .sl 1 1 0 xs.length ca])), (5, .own 26 1 (.lit zeroM)), (6, .own 26 1 (.lit [.int is.length, .int k, .sl 7 1 0 (partP xs k is i x.1).length x.2])), (7, .own 3 x.2 (.ints (partP xs k is i x.1)))]) 8 [] (0, cap) ⟨Nat.zero_le _, by dsimp only; rw [partP_zero]; exact hcap⟩ (by rw [partP_zero]; exact ⟨w_1, w_2, rfl⟩) ?_
    rintro ⟨j, cap2⟩ ⟨hj, hcap2⟩
    dsimp only at hj hcap2
    have hip := his _ (List.getElem_mem hik)
    have hin := row_in (c := k) hip
    have hgi : is.getD i 0 = is[i] := getD_in hik
    have hpl := partP_len hx his hik hj
    have hpb : i * k + j ≤ 24 * 24 + 24 := by have := Nat.mul_le_mul (show i ≤ 24 by omega) hc24; omega
    by_cases hjk : j < k
    · have hln1 : (natsI is).length = is.length := natsI_len
      have hln2 : (natsI (List.range k)).length = k := by rw [natsI_len, List.length_range]
      have e1 : (natsI is).getD (0 + (i : Int).toNat) 0 = ((is.getD i 0 : Nat) : Int) := by rw [show 0 + (i : Int).toNat = i by omega, natsI_getD]
      have e2 : (natsI (List.range k)).getD (0 + (j : Int).toNat) 0 = (j : Int) := by rw [show 0 + (j : Int).toNat = j by omega, natsI_getD, range_getD hjk]
      have e3 : ((is.getD i 0 : Nat) : Int) * k = ((is.getD i 0 * k : Nat) : Int) := by simp
      have hcell := fun h1 h3 => d_cell12 r k ((is.getD i 0 : Nat) : Int) j xs xs.length ca rfl h1 (by omega) h3 (by omega)
      have hcell := hcell (by rw [e3, hgi]; omega) (by rw [e3, hgi]; omega)
      rw [← e1, ← e2] at hcell
      have hnx := partP_next (is := is) hx (by rw [hgi]; exact hip) hjk
      have ev : xs.getD (0 + ((natsI is).getD (0 + (i : Int).toNat) 0 * k + (natsI (List.range k)).getD (0 + (j : Int).toNat) 0).toNat) 0 = xs.getD (is.getD i 0 * k + j) 0 := by
        rw [e1, e2, e3]; congr 1; omega
      rw [← ev] at hnx
      ((repeat' (first | refine w_a TT rfl rfl rfl sd ?_ | refine w_b ?_ | refine w_c rfl rfl ?_ | refine w_d TT rfl rfl rfl rfl sd ?_ | refine w_e ?_ | refine w_f rfl rfl ?_ | refine w_g ?_ | refine w_h ?_ | refine w_i ?_ | refine w_j ?_ | refine w_k ?_ | refine w_l ?_ | refine w_m rfl ?_ | refine w_n rfl ?_ | ((first | refine w_p rfl rfl rfl (fun hc => ?_) (fun hc => ?_) | refine w_q rfl rfl rfl (fun hc => ?_) (fun hc => ?_) | refine w_r rfl (fun hc => ?_) (fun hc => ?_)) <;> ((try simp at hc) <;> try contradiction)))) <;> try (exfalso; omega))
      refine awp_held TM [(1, _), (2, _), (3, _), (4, _)] sb rfl (fun ρs => ?_)
      refine w_t TT 2 rfl kr kr kr nh rfl rfl rfl rfl sd ?_
      refine w_t TT 3 rfl kr kr kr nh rfl rfl rfl rfl sd ?_
      refine w_t TT 4 rfl kr kr kr nh rfl rfl rfl rfl sd ?_
      first | (refine w_t TT 5 rfl kr kr kr nh rfl rfl rfl rfl sd ?_) | (refine w_w TT 5 rfl kr kr kr nh rfl rfl rfl rfl rfl sd ?_)
      refine w_t TT 6 rfl kr kr kr nh rfl rfl rfl rfl sd ?_
      refine w_t TT 7 rfl kr kr kr nh rfl rfl rfl rfl sd ?_
      refine w_t TT 8 rfl kr kr kr nh rfl rfl rfl rfl sd ?_
      first | (refine w_t TT 9 rfl kr kr kr nh rfl rfl rfl rfl sd ?_) | (refine w_w TT 9 rfl kr kr kr nh rfl rfl rfl rfl rfl sd ?_)
      refine w_t TT 10 rfl kr kr kr nh rfl rfl rfl rfl sd ?_
      refine w_u [0, 11] kr rfl ⟨?_, ?_, trivial⟩
      first | (refine w_s TT 0 rfl rfl rfl rfl sd sb rfl ?_) | (refine w_y TT _ rfl rfl rfl rfl rfl rfl sd sb rfl rfl ?_; intro cap hcap) | refine w_B _ (hcell) rfl rfl rfl rfl rfl rfl rfl rfl rfl ft rfl rfl sb rfl ?_
      refine w_u [1, 11] kr rfl ⟨?_, ?_, trivial⟩
      first | (refine w_s TT 1 rfl rfl rfl rfl sd sb rfl ?_) | (refine w_y TT _ rfl rfl rfl rfl rfl rfl sd sb rfl rfl ?_; intro cap hcap) | refine w_B _ (hcell) rfl rfl rfl rfl rfl rfl rfl rfl rfl ft rfl rfl sb rfl ?_
      refine w_u [11] kr rfl ⟨?_, trivial⟩
      first | (refine w_s TT 11 rfl rfl rfl rfl sd sb rfl ?_) | (refine w_y TT _ rfl rfl rfl rfl rfl rfl sd sb rfl rfl ?_; intro cap hcap) | refine w_B _ (hcell) rfl rfl rfl rfl rfl rfl rfl rfl rfl ft rfl rfl sb rfl ?_
      refine w_u [12] kr rfl ⟨?_, trivial⟩
      first | (refine w_s TT 12 rfl rfl rfl rfl sd sb rfl ?_) | (refine w_y TT _ rfl rfl rfl rfl rfl rfl sd sb rfl rfl ?_; intro cap hcap) | refine w_B _ (hcell) rfl rfl rfl rfl rfl rfl rfl rfl rfl ft rfl rfl sb rfl ?_
      refine w_u [13] kr rfl ⟨?_, trivial⟩
      first | (refine w_s TT 13 rfl rfl rfl rfl sd sb rfl ?_) | (refine w_y TT _ rfl rfl rfl rfl rfl rfl sd sb rfl rfl ?_; intro cap hcap) | refine w_B _ (hcell) rfl rfl rfl rfl rfl rfl rfl rfl rfl ft rfl rfl sb rfl ?_
      refine w_u [14] kr rfl ⟨?_, trivial⟩
      first | (refine w_s TT 14 rfl rfl rfl rfl sd sb rfl ?_) | (refine w_y TT _ rfl rfl rfl rfl rfl rfl sd sb rfl rfl ?_; intro cap hcap) | refine w_B _ (hcell) rfl rfl rfl rfl rfl rfl rfl rfl rfl ft rfl rfl sb rfl ?_
      refine w_u [15] kr rfl ⟨?_, trivial⟩
      first | (refine w_s TT 15 rfl rfl rfl rfl sd sb rfl ?_) | (refine w_y TT _ rfl rfl rfl rfl rfl rfl sd sb rfl rfl ?_; intro cap hcap) | refine w_B _ (hcell) rfl rfl rfl rfl rfl rfl rfl rfl rfl ft rfl rfl sb rfl ?_
      refine w_v kr ?_
      rotate_left
      first | (refine w_s TT 11 rfl rfl rfl rfl sd sb rfl ?_) | (refine w_y TT _ rfl rfl rfl rfl rfl rfl sd sb rfl rfl ?_; intro cap hcap) | refine w_B _ (hcell) rfl rfl rfl rfl rfl rfl rfl rfl rfl ft rfl rfl sb rfl ?_
      refine w_u [1, 12] kr rfl ⟨?_, ?_, trivial⟩
      first | (refine w_s TT 1 rfl rfl rfl rfl sd sb rfl ?_) | (refine w_y TT _ rfl rfl rfl rfl rfl rfl sd sb rfl rfl ?_; intro cap hcap) | refine w_B _ (hcell) rfl rfl rfl rfl rfl rfl rfl rfl rfl ft rfl rfl sb rfl ?_
      refine w_u [12] kr rfl ⟨?_, trivial⟩
      first | (refine w_s TT 12 rfl rfl rfl rfl sd sb rfl ?_) | (refine w_y TT _ rfl rfl rfl rfl rfl rfl sd sb rfl rfl ?_; intro cap hcap) | refine w_B _ (hcell) rfl rfl rfl rfl rfl rfl rfl rfl rfl ft rfl rfl sb rfl ?_
      refine w_u [13] kr rfl ⟨?_, trivial⟩
      first | (refine w_s TT 13 rfl rfl rfl rfl sd sb rfl ?_) | (refine w_y TT _ rfl rfl rfl rfl rfl rfl sd sb rfl rfl ?_; intro cap hcap) | refine w_B _ (hcell) rfl rfl rfl rfl rfl rfl rfl rfl rfl ft rfl rfl sb rfl ?_
      refine w_u [14] kr rfl ⟨?_, trivial⟩
      first | (refine w_s TT 14 rfl rfl rfl rfl sd sb rfl ?_) | (refine w_y TT _ rfl rfl rfl rfl rfl rfl sd sb rfl rfl ?_; intro cap hcap) | refine w_B _ (hcell) rfl rfl rfl rfl rfl rfl rfl rfl rfl ft rfl rfl sb rfl ?_
      refine w_u [15] kr rfl ⟨?_, trivial⟩
      first | (refine w_s TT 15 rfl rfl rfl rfl sd sb rfl ?_) | (refine w_y TT _ rfl rfl rfl rfl rfl rfl sd sb rfl rfl ?_; intro cap hcap) | refine w_B _ (hcell) rfl rfl rfl rfl rfl rfl rfl rfl rfl ft rfl rfl sb rfl ?_
      refine w_v kr ?_
      rotate_left
      first | (refine w_s TT 12 rfl rfl rfl rfl sd sb rfl ?_) | (refine w_y TT _ rfl rfl rfl rfl rfl rfl sd sb rfl rfl ?_; intro cap hcap) | refine w_B _ (hcell) rfl rfl rfl rfl rfl rfl rfl rfl rfl ft rfl rfl sb rfl ?_
      refine w_u [1] kr rfl ⟨?_, trivial⟩
      first | (refine w_s TT 1 rfl rfl rfl rfl sd sb rfl ?_) | (refine w_y TT _ rfl rfl rfl rfl rfl rfl sd sb rfl rfl ?_; intro cap hcap) | refine w_B _ (hcell) rfl rfl rfl rfl rfl rfl rfl rfl rfl ft rfl rfl sb rfl ?_
      refine w_u [13] kr rfl ⟨?_, trivial⟩
      first | (refine w_s TT 13 rfl rfl rfl rfl sd sb rfl ?_) | (refine w_y TT _ rfl rfl rfl rfl rfl rfl sd sb rfl rfl ?_; intro cap hcap) | refine w_B _ (hcell) rfl rfl rfl rfl rfl rfl rfl rfl rfl ft rfl rfl sb rfl ?_
      refine w_u [14] kr rfl ⟨?_, trivial⟩
      first | (refine w_s TT 14 rfl rfl rfl rfl sd sb rfl ?_) | (refine w_y TT _ rfl rfl rfl rfl rfl rfl sd sb rfl rfl ?_; intro cap hcap) | refine w_B _ (hcell) rfl rfl rfl rfl rfl rfl rfl rfl rfl ft rfl rfl sb rfl ?_
      refine w_u [15] kr rfl ⟨?_, trivial⟩
      first | (refine w_s TT 15 rfl rfl rfl rfl sd sb rfl ?_) | (refine w_y TT _ rfl rfl rfl rfl rfl rfl sd sb rfl rfl ?_; intro cap hcap) | refine w_B _ (hcell) rfl rfl rfl rfl rfl rfl rfl rfl rfl ft rfl rfl sb rfl ?_
      refine w_v kr ?_
      rotate_left
      first | (refine w_s TT 11 rfl rfl rfl rfl sd sb rfl ?_) | (refine w_y TT _ rfl rfl rfl rfl rfl rfl sd sb rfl rfl ?_; intro cap hcap) | refine w_B _ (hcell) rfl rfl rfl rfl rfl rfl rfl rfl rfl ft rfl rfl sb rfl ?_
      refine w_u [0, 12] kr rfl ⟨?_, ?_, trivial⟩
      first | (refine w_s TT 0 rfl rfl rfl rfl sd sb rfl ?_) | (refine w_y TT _ rfl rfl rfl rfl rfl rfl sd sb rfl rfl ?_; intro cap hcap) | refine w_B _ (hcell) rfl rfl rfl rfl rfl rfl rfl rfl rfl ft rfl rfl sb rfl ?_
      refine w_u [1, 12] kr rfl ⟨?_, ?_, trivial⟩
      first | (refine w_s TT 1 rfl rfl rfl rfl sd sb rfl ?_) | (refine w_y TT _ rfl rfl rfl rfl rfl rfl sd sb rfl rfl ?_; intro cap hcap) | refine w_B _ (hcell) rfl rfl rfl rfl rfl rfl rfl rfl rfl ft rfl rfl sb rfl ?_
      refine w_u [12] kr rfl ⟨?_, trivial⟩
      first | (refine w_s TT 12 rfl rfl rfl rfl sd sb rfl ?_) | (refine w_y TT _ rfl rfl rfl rfl rfl rfl sd sb rfl rfl ?_; intro cap hcap) | refine w_B _ (hcell) rfl rfl rfl rfl rfl rfl rfl rfl rfl ft rfl rfl sb rfl ?_
      refine w_u [13] kr rfl ⟨?_, trivial⟩
      first | (refine w_s TT 13 rfl rfl rfl rfl sd sb rfl ?_) | (refine w_y TT _ rfl rfl rfl rfl rfl rfl sd sb rfl rfl ?_; intro cap hcap) | refine w_B _ (hcell) rfl rfl rfl rfl rfl rfl rfl rfl rfl ft rfl rfl sb rfl ?_
      refine w_u [14] kr rfl ⟨?_, trivial⟩
      first | (refine w_s TT 14 rfl rfl rfl rfl sd sb rfl ?_) | (refine w_y TT _ rfl rfl rfl rfl rfl rfl sd sb rfl rfl ?_; intro cap hcap) | refine w_B _ (hcell) rfl rfl rfl rfl rfl rfl rfl rfl rfl ft rfl rfl sb rfl ?_
      refine w_u [15] kr rfl ⟨?_, trivial⟩
      first | (refine w_s TT 15 rfl rfl rfl rfl sd sb rfl ?_) | (refine w_y TT _ rfl rfl rfl rfl rfl rfl sd sb rfl rfl ?_; intro cap hcap) | refine w_B _ (hcell) rfl rfl rfl rfl rfl rfl rfl rfl rfl ft rfl rfl sb rfl ?_
      refine w_v kr ?_
      rotate_left
      first | (refine w_s TT 12 rfl rfl rfl rfl sd sb rfl ?_) | (refine w_y TT _ rfl rfl rfl rfl rfl rfl sd sb rfl rfl ?_; intro cap hcap) | refine w_B _ (hcell) rfl rfl rfl rfl rfl rfl rfl rfl rfl ft rfl rfl sb rfl ?_
      refine w_u [1] kr rfl ⟨?_, trivial⟩
      first | (refine w_s TT 1 rfl rfl rfl rfl sd sb rfl ?_) | (refine w_y TT _ rfl rfl rfl rfl rfl rfl sd sb rfl rfl ?_; intro cap hcap) | refine w_B _ (hcell) rfl rfl rfl rfl rfl rfl rfl rfl rfl ft rfl rfl sb rfl ?_
      refine w_u [13] kr rfl ⟨?_, trivial⟩
      first | (refine w_s TT 13 rfl rfl rfl rfl sd sb rfl ?_) | (refine w_y TT _ rfl rfl rfl rfl rfl rfl sd sb rfl rfl ?_; intro cap hcap) | refine w_B _ (hcell) rfl rfl rfl rfl rfl rfl rfl rfl rfl ft rfl rfl sb rfl ?_
      refine w_u [14] kr rfl ⟨?_, trivial⟩
      first | (refine w_s TT 14 rfl rfl rfl rfl sd sb rfl ?_) | (refine w_y TT _ rfl rfl rfl rfl rfl rfl sd sb rfl rfl ?_; intro cap hcap) | refine w_B _ (hcell) rfl rfl rfl rfl rfl rfl rfl rfl rfl ft rfl rfl sb rfl ?_
      refine w_u [15] kr rfl ⟨?_, trivial⟩
      first | (refine w_s TT 15 rfl rfl rfl rfl sd sb rfl ?_) | (refine w_y TT _ rfl rfl rfl rfl rfl rfl sd sb rfl rfl ?_; intro cap hcap) | refine w_B _ (hcell) rfl rfl rfl rfl rfl rfl rfl rfl rfl ft rfl rfl sb rfl ?_
      refine w_v kr ?_
      rotate_left
      first | (refine w_s TT 12 rfl rfl rfl rfl sd sb rfl ?_) | (refine w_y TT _ rfl rfl rfl rfl rfl rfl sd sb rfl rfl ?_; intro cap hcap) | refine w_B _ (hcell) rfl rfl rfl rfl rfl rfl rfl rfl rfl ft rfl rfl sb rfl ?_
      refine w_u [0] kr rfl ⟨?_, trivial⟩
      first | (refine w_s TT 0 rfl rfl rfl rfl sd sb rfl ?_) | (refine w_y TT _ rfl rfl rfl rfl rfl rfl sd sb rfl rfl ?_; intro cap hcap) | refine w_B _ (hcell) rfl rfl rfl rfl rfl rfl rfl rfl rfl ft rfl rfl sb rfl ?_
      refine w_u [1] kr rfl ⟨?_, trivial⟩
      first | (refine w_s TT 1 rfl rfl rfl rfl sd sb rfl ?_) | (refine w_y TT _ rfl rfl rfl rfl rfl rfl sd sb rfl rfl ?_; intro cap hcap) | refine w_B _ (hcell) rfl rfl rfl rfl rfl rfl rfl rfl rfl ft rfl rfl sb rfl ?_
      refine w_u [13] kr rfl ⟨?_, trivial⟩
      first | (refine w_s TT 13 rfl rfl rfl rfl sd sb rfl ?_) | (refine w_y TT _ rfl rfl rfl rfl rfl rfl sd sb rfl rfl ?_; intro cap hcap) | refine w_B _ (hcell) rfl rfl rfl rfl rfl rfl rfl rfl rfl ft rfl rfl sb rfl ?_
      refine w_u [14] kr rfl ⟨?_, trivial⟩
      first | (refine w_s TT 14 rfl rfl rfl rfl sd sb rfl ?_) | (refine w_y TT _ rfl rfl rfl rfl rfl rfl sd sb rfl rfl ?_; intro cap hcap) | refine w_B _ (hcell) rfl rfl rfl rfl rfl rfl rfl rfl rfl ft rfl rfl sb rfl ?_
      refine w_u [15] kr rfl ⟨?_, trivial⟩
      first | (refine w_s TT 15 rfl rfl rfl rfl sd sb rfl ?_) | (refine w_y TT _ rfl rfl rfl rfl rfl rfl sd sb rfl rfl ?_; intro cap hcap) | refine w_B _ (hcell) rfl rfl rfl rfl rfl rfl rfl rfl rfl ft rfl rfl sb rfl ?_
      refine w_v kr ?_
      rotate_left
      all_goals ((repeat' (first | refine w_a TT rfl rfl rfl sd ?_ | refine w_b ?_ | refine w_c rfl rfl ?_ | refine w_d TT rfl rfl rfl rfl sd ?_ | refine w_e ?_ | refine w_f rfl rfl ?_ | refine w_g ?_ | refine w_h ?_ | refine w_i ?_ | refine w_j ?_ | refine w_k ?_ | refine w_l ?_ | refine w_m rfl ?_ | refine w_n rfl ?_ | refine w_o TM rfl kr ?_ | ((first | refine w_p rfl rfl rfl (fun hc => ?_) (fun hc => ?_) | refine w_q rfl rfl rfl (fun hc => ?_) (fun hc => ?_) | refine w_r rfl (fun hc => ?_) (fun hc => ?_)) <;> ((try simp at hc) <;> try contradiction)))) <;> try (exfalso; omega))
      all_goals
        have el : (partP xs k is i j).length + 1 = (partP xs k is i (j + 1)).length := by rw [hnx]; simp
        exact ⟨[(7, 9)], (j + 1, cap), ⟨by dsimp only; omega, by dsimp only at hcap ⊢; omega⟩, w_4, ⟨w_1, ⟨rfl, rfl, rfl, rfl, rfl, own_litP rfl el, own_ints hnx.symm, trivial⟩, rfl⟩⟩
    · obtain rfl : j = k := by omega
      ((repeat' (first | refine w_a TT rfl rfl rfl sd ?_ | refine w_b ?_ | refine w_c rfl rfl ?_ | refine w_d TT rfl rfl rfl rfl sd ?_ | refine w_e ?_ | refine w_f rfl rfl ?_ | refine w_g ?_ | refine w_h ?_ | refine w_i ?_ | refine w_j ?_ | refine w_k ?_ | refine w_l ?_ | refine w_m rfl ?_ | refine w_n rfl ?_ | refine w_o TM rfl kr ?_ | ((first | refine w_p rfl rfl rfl (fun hc => ?_) (fun hc => ?_) | refine w_q rfl rfl rfl (fun hc => ?_) (fun hc => ?_) | refine w_r rfl (fun hc => ?_) (fun hc => ?_)) <;> ((try simp at hc) <;> try contradiction)))) <;> try (exfalso; omega))
      have er := partP_row (xs := xs) (c := j) hik
      exact ⟨[], (i + 1, cap2), ⟨hik, by dsimp only; rw [← er]; exact hcap2⟩, w_4, by dsimp only; rw [← er]; exact ⟨w_1, w_2, rfl⟩⟩
  · obtain rfl : i = is.length := by omega
    rw [List.take_length] at hcap
    ((repeat' (first | refine w_a TT rfl rfl rfl sd ?_ | refine w_b ?_ | refine w_c rfl rfl ?_ | refine w_d TT rfl rfl rfl rfl sd ?_ | refine w_e ?_ | refine w_f rfl rfl ?_ | refine w_g ?_ | refine w_h ?_ | refine w_i ?_ | refine w_j ?_ | refine w_k ?_ | refine w_l ?_ | refine w_m rfl ?_ | refine w_n rfl ?_ | refine w_o TM rfl kr ?_ | ((first | refine w_p rfl rfl rfl (fun hc => ?_) (fun hc => ?_) | refine w_q rfl rfl rfl (fun hc => ?_) (fun hc => ?_) | refine w_r rfl (fun hc => ?_) (fun hc => ?_)) <;> ((try simp at hc) <;> try contradiction)))) <;> try (exfalso; omega))
    exact fin rfl w_3 [(4, 7)] (.agg [.int is.length, .int k, .sl 4 1 0 (pickR xs k is).length cap]) [(4, .own 3 cap (.ints (pickR xs k is)))] 5 ⟨cap, hcap, rfl, rfl, rfl⟩ (by rw [List.take_length]; rfl) ⟨trivial, ⟨own_ints (by rw [List.take_length]), trivial⟩, rfl⟩ rfl
end Go.Proofs.YtfkbjkmlpinoeaaGreat
