/-
  TEXTS OF THE PROOF, put together: bChoose, Lay1.
-/
import Derived.Test.YtfkbjkmlpinoeaaGreatM23
import Derived.Test.YtfkbjkmlpinoeaaGreatM30
import Derived.Shelf.SlSortCmp.Whole1
import Derived.Test.YtfkbjkmlpinoeaaGreatProg
set_option linter.unusedVariables false
set_option linter.unusedSimpArgs false
/-
  CONTRACTS: the choices of k among n numbers, in order, of both packages.
-/
namespace Go.Proofs.YtfkbjkmlpinoeaaGreat
open Go.RowKit

/-- what comes back: headers, and the rows asleep -/
def ChoR (th t : TypeId) (L : List (List Int)) (k : Nat) (v : AV) (Hout : List (Nat × Blk)) (n1 : Nat) : Prop := ∃ l cap, rowsX l = L ∧ v = vS k 1 0 l.length cap ∧ Hout = [(k, .own th cap (.rows false true l)), (k + 1, .tok t false l)] ∧ n1 = k + 2
theorem chRow {n k j : Nat} {l : List Row} (h : rowsX l = chTo n k) (hj : j < l.length) : (l.getD (0 + (j : Int).toNat) rowD).xs = (chTo n k).getD j [] ∧ (chTo n k).getD j [] ∈ chTo n k ∧ ((chTo n k).getD j []).length = k := by
  have hx := rowsX_at h hj
  have hl := rowsX_len h
  have hm : (chTo n k).getD j [] ∈ chTo n k := by rw [getD_in (by omega)]; exact List.getElem_mem _
  exact ⟨hx, hm, (chTo_mem hm).1⟩
set_option maxRecDepth 100000 in
set_option maxHeartbeats 4000000 in
theorem d_choices (n : Nat) (hn : n ≤ 8) : ∀ k : Nat, k ≤ 2 → Does Tryz.prog 45 [vI n, vI k] [] 1 (ChoR 24 3 (chTo n k) 1)
  | 0, _ => by
    refine Does.intro TT Tryz.func45 rfl (by kernel_rfl) rfl rfl fun E hE => ?_
    ((repeat' (first | refine w_a TT rfl rfl rfl sd ?_ | refine w_b ?_ | refine w_c rfl rfl ?_ | refine w_d TT rfl rfl rfl rfl sd ?_ | refine w_e ?_ | refine w_f rfl rfl ?_ | refine w_g ?_ | refine w_h ?_ | refine w_i ?_ | refine w_j ?_ | refine w_k ?_ | refine w_l ?_ | refine w_m rfl ?_ | refine w_n rfl ?_ | refine w_o TM rfl kr ?_ | ((first | refine w_p rfl rfl rfl (fun hc => ?_) (fun hc => ?_) | refine w_q rfl rfl rfl (fun hc => ?_) (fun hc => ?_) | refine w_r rfl (fun hc => ?_) (fun hc => ?_)) <;> ((try simp at hc) <;> try contradiction)))) <;> try (exfalso; omega))
    ((first | refine awpL_ghost (Ghost.newTok 3 false) ?_ | refine awp_ghost (Ghost.newTok 3 false) ?_ | refine awpH_ghost (Ghost.newTok 3 false) ?_ | refine awpHop_ghost (Ghost.newTok 3 false) ?_); rintro _ _ ⟨rfl, rfl⟩)
    ((first | refine awpL_ghost (Ghost.freeze 1 2 rfl rfl) ?_ | refine awp_ghost (Ghost.freeze 1 2 rfl rfl) ?_ | refine awpH_ghost (Ghost.freeze 1 2 rfl rfl) ?_ | refine awpHop_ghost (Ghost.freeze 1 2 rfl rfl) ?_); rintro _ _ ⟨a0, rfl, rfl⟩)
    ((repeat' (first | refine w_a TT rfl rfl rfl sd ?_ | refine w_b ?_ | refine w_c rfl rfl ?_ | refine w_d TT rfl rfl rfl rfl sd ?_ | refine w_e ?_ | refine w_f rfl rfl ?_ | refine w_g ?_ | refine w_h ?_ | refine w_i ?_ | refine w_j ?_ | refine w_k ?_ | refine w_l ?_ | refine w_m rfl ?_ | refine w_n rfl ?_ | refine w_o TM rfl kr ?_ | ((first | refine w_p rfl rfl rfl (fun hc => ?_) (fun hc => ?_) | refine w_q rfl rfl rfl (fun hc => ?_) (fun hc => ?_) | refine w_r rfl (fun hc => ?_) (fun hc => ?_)) <;> ((try simp at hc) <;> try contradiction)))) <;> try (exfalso; omega))
    exact fin rfl w_3 [(1, 3), (2, 2)] (vS 1 1 0 1 1) [(1, .own 24 1 (.rows false true [⟨a0, 0, [], []⟩])), (2, .tok 3 false [⟨a0, 0, [], []⟩])] 3 ⟨_, 1, rfl, rfl, rfl, rfl⟩ rfl ⟨trivial, ⟨rfl, rfl, trivial⟩, rfl⟩ rfl
  | k + 1, hk2 => by
    have hrec : Does Tryz.prog 45 [vI n, vI (((k + 1 : Nat) : Int) - 1)] [] 1 (ChoR 24 3 (chTo n k) 1) := by
      rw [show (((k + 1 : Nat) : Int) - 1) = (k : Int) by omega]
      exact d_choices n hn k (by omega)
    refine Does.intro TT Tryz.func45 rfl (by kernel_rfl) rfl rfl fun E hE => ?_
    have hkl := chTo_len hn (k := k) (by omega)
    ((repeat' (first | refine w_a TT rfl rfl rfl sd ?_ | refine w_b ?_ | refine w_c rfl rfl ?_ | refine w_d TT rfl rfl rfl rfl sd ?_ | refine w_e ?_ | refine w_f rfl rfl ?_ | refine w_g ?_ | refine w_h ?_ | ((refine w_E (hrec) rfl rfl rfl rfl rfl rfl rfl ft rfl ?_); rintro v Hout n1 ⟨l, cap, hl, rfl, rfl, rfl⟩) | refine w_i ?_ | refine w_j ?_ | refine w_k ?_ | refine w_l ?_ | refine w_m rfl ?_ | refine w_n rfl ?_ | refine w_o TM rfl kr ?_ | ((first | refine w_p rfl rfl rfl (fun hc => ?_) (fun hc => ?_) | refine w_q rfl rfl rfl (fun hc => ?_) (fun hc => ?_) | refine w_r rfl (fun hc => ?_) (fun hc => ?_)) <;> ((try simp at hc) <;> try contradiction)))) <;> try (exfalso; omega))
    have hll := rowsX_len hl
    ((first | refine awpL_ghost (Ghost.newTok 3 false) ?_ | refine awp_ghost (Ghost.newTok 3 false) ?_ | refine awpH_ghost (Ghost.newTok 3 false) ?_ | refine awpHop_ghost (Ghost.newTok 3 false) ?_); rintro _ _ ⟨rfl, rfl⟩)
    refine w_G hE (fun x : Nat × List Row × Nat => x.1 ≤ l.length ∧ rowsX x.2.1 = midC n k x.1 0) (fun x => l.length - x.1)
      (fun x => [(0, vI n), (5, vS 1 1 0 x.2.1.length x.2.2), (18, vS 2 1 0 l.length cap), (19, vI l.length), (20, vI x.1)])
      (fun x => [(1, .own 24 x.2.2 (.rows false true x.2.1)), (2, .own 24 cap (.rows false true l)), (3, .tok 3 false l), (4, .tok 3 false x.2.1)]) 5 [] (0, [], 0) ⟨Nat.zero_le _, rfl⟩ ⟨w_1, w_2, rfl⟩ ?_
    rintro ⟨j, l2, cap2⟩ ⟨hj, hl2⟩
    dsimp only at hj hl2
    have hl2n : l2.length ≤ 1000 := by rw [rowsX_len hl2]; exact midC_len hn (by omega) (by omega) (by omega)
    by_cases hjl : j < l.length
    · obtain ⟨hvx, hvm, hvn⟩ := chRow hl hjl
      obtain ⟨-, hvb, f0, f1⟩ := chTo_mem hvm
      have hvl : (l.getD (0 + (j : Int).toNat) rowD).xs.length = k := by rw [hvx, hvn]
      have hnf : (l[j]?.getD rowD).xs.length = (l.getD (0 + (j : Int).toNat) rowD).xs.length := by simp
      have hbx : ∀ i : Nat, 0 ≤ (l.getD (0 + (j : Int).toNat) rowD).xs.getD i 0 ∧ (l.getD (0 + (j : Int).toNat) rowD).xs.getD i 0 ≤ n := fun i => by
        rw [hvx]
        rcases Nat.lt_or_ge i ((chTo n k).getD j []).length with h | h
        · have := hvb _ (List.getElem_mem h)
          rw [getD_in h]; omega
        · rw [List.getD_eq_getElem?_getD, List.getElem?_eq_none h]; simp
      have hb9 := hbx (0 + (((l.getD (0 + (j : Int).toNat) rowD).xs.length : Int) - 1).toNat)
      have hb8 := hb9
      simp only [Nat.zero_add, List.getD_eq_getElem?_getD, Int.toNat_natCast] at hb8
      have e8 : ∀ g : Int, g = (l.getD (0 + (j : Int).toNat) rowD).xs.getD (0 + (((l.getD (0 + (j : Int).toNat) rowD).xs.length : Int) - 1).toNat) 0 + 1 → 0 < (l.getD (0 + (j : Int).toNat) rowD).xs.length → g = fromI ((chTo n k).getD j []) k := fun g hg h0 => by
        rw [hg, hvl, hvx, fromI, if_pos (by omega)]
        congr 2; omega
      have e9 : (l.getD (0 + (j : Int).toNat) rowD).xs.length = 0 → 0 = fromI ((chTo n k).getD j []) k := fun h0 => by
        rw [fromI, if_neg (by omega)]
      ((repeat' (first | (refine awp_cut 8 hE (fun _ : Unit => True) (fun _ => [(0, vI n), (5, vS 1 1 0 l2.length cap2), (7, vS 5 1 0 (l.getD (0 + (j : Int).toNat) rowD).xs.length (l.getD (0 + (j : Int).toNat) rowD).cap), (8, vI (fromI ((chTo n k).getD j []) k)), (18, vS 2 1 0 l.length cap), (19, vI l.length), (20, vI j)]) (fun _ => [(1, .own 24 cap2 (.rows false true l2)), (2, .own 24 cap (.rows false true l)), (3, .tok 3 false l), (4, .tok 3 false l2), (5, .al (l.getD (0 + (j : Int).toNat) rowD).a (.ints (l.getD (0 + (j : Int).toNat) rowD).xs))]) 6 ?_ ?_) | refine w_a TT rfl rfl rfl sd ?_ | refine w_b ?_ | refine w_c rfl rfl ?_ | refine w_d TT rfl rfl rfl rfl sd ?_ | refine w_e ?_ | refine w_f rfl rfl ?_ | refine w_g ?_ | refine w_h ?_ | refine w_i ?_ | refine w_j ?_ | refine w_k ?_ | refine w_l ?_ | refine w_m rfl ?_ | refine w_n rfl ?_ | ((first | refine w_p rfl rfl rfl (fun hc => ?_) (fun hc => ?_) | refine w_q rfl rfl rfl (fun hc => ?_) (fun hc => ?_) | refine w_r rfl (fun hc => ?_) (fun hc => ?_)) <;> ((try simp at hc) <;> try contradiction)))) <;> try (exfalso; omega))
      · rw [← e8 _ rfl (by omega)]
        exact ⟨[], (), trivial, ⟨w_1, w_2, rfl⟩⟩
      · rw [← e9 (by have := congrArg List.length hc; simp only [List.length_nil] at this; omega)]
        exact ⟨[], (), trivial, ⟨w_1, w_2, rfl⟩⟩
      rintro ⟨⟩ -
      try dsimp only
      generalize hf : fromI ((chTo n k).getD j []) k = f at *
      clear e8 e9 hnf hb8 hb9 hbx
      ((repeat' (first | refine w_a TT rfl rfl rfl sd ?_ | refine w_b ?_ | refine w_c rfl rfl ?_ | refine w_d TT rfl rfl rfl rfl sd ?_ | refine w_e ?_ | refine w_f rfl rfl ?_ | refine w_g ?_ | refine w_h ?_ | refine w_i ?_ | refine w_j ?_ | refine w_k ?_ | refine w_l ?_ | refine w_m rfl ?_ | refine w_n rfl ?_ | refine w_o TM rfl kr ?_ | ((first | refine w_p rfl rfl rfl (fun hc => ?_) (fun hc => ?_) | refine w_q rfl rfl rfl (fun hc => ?_) (fun hc => ?_) | refine w_r rfl (fun hc => ?_) (fun hc => ?_)) <;> ((try simp at hc) <;> try contradiction)))) <;> try (exfalso; omega))
      refine w_G hE (fun x : Nat × List Row × Nat => x.1 ≤ ((n : Int) - f).toNat ∧ rowsX x.2.1 = midC n k j x.1) (fun x => ((n : Int) - f).toNat - x.1)
        (fun x => [(0, vI n), (5, vS 1 1 0 x.2.1.length x.2.2), (7, vS 5 1 0 (l.getD (0 + (j : Int).toNat) rowD).xs.length (l.getD (0 + (j : Int).toNat) rowD).cap), (9, vI (f + (x.1 : Int))), (18, vS 2 1 0 l.length cap), (19, vI l.length), (20, vI j)])
        (fun x => [(1, .own 24 x.2.2 (.rows false true x.2.1)), (2, .own 24 cap (.rows false true l)), (3, .tok 3 false l), (4, .tok 3 false x.2.1), (5, .al (l.getD (0 + (j : Int).toNat) rowD).a (.ints (l.getD (0 + (j : Int).toNat) rowD).xs))]) 6 [] (0, l2, cap2) ⟨Nat.zero_le _, hl2⟩ ⟨w_1, w_2, rfl⟩ ?_
      rintro ⟨m, l3, cap3⟩ ⟨hm, hl3⟩
      dsimp only at hm hl3
      have hl3n : l3.length ≤ 1000 := by rw [rowsX_len hl3]; exact midC_len hn (by omega) (by omega) (by omega)
      by_cases hmw : m < ((n : Int) - f).toNat
      · ((repeat' (first | refine w_a TT rfl rfl rfl sd ?_ | refine w_b ?_ | refine w_c rfl rfl ?_ | refine w_d TT rfl rfl rfl rfl sd ?_ | refine w_e ?_ | refine w_f rfl rfl ?_ | refine w_g ?_ | refine w_h ?_ | (refine w_x TT rfl rfl rfl rfl rfl sd ?_; intro cap hcap) | refine w_i ?_ | refine w_j ?_ | refine w_k ?_ | refine w_l ?_ | refine w_m rfl ?_ | refine w_n rfl ?_ | refine w_o TM rfl kr ?_ | ((first | refine w_p rfl rfl rfl (fun hc => ?_) (fun hc => ?_) | refine w_q rfl rfl rfl (fun hc => ?_) (fun hc => ?_) | refine w_r rfl (fun hc => ?_) (fun hc => ?_)) <;> ((try simp at hc) <;> try contradiction)))) <;> try (exfalso; omega))
        ((first | refine awpL_ghost (Ghost.freeze 9 4 rfl rfl) ?_ | refine awp_ghost (Ghost.freeze 9 4 rfl rfl) ?_ | refine awpH_ghost (Ghost.freeze 9 4 rfl rfl) ?_ | refine awpHop_ghost (Ghost.freeze 9 4 rfl rfl) ?_); rintro _ _ ⟨a1, rfl, rfl⟩)
        ((repeat' (first | refine w_a TT rfl rfl rfl sd ?_ | refine w_b ?_ | refine w_c rfl rfl ?_ | refine w_d TT rfl rfl rfl rfl sd ?_ | refine w_e ?_ | refine w_f rfl rfl ?_ | refine w_g ?_ | refine w_h ?_ | (refine w_x TT rfl rfl rfl rfl rfl sd ?_; intro cap hcap) | refine w_i ?_ | refine w_j ?_ | refine w_k ?_ | refine w_l ?_ | refine w_m rfl ?_ | refine w_n rfl ?_ | refine w_o TM rfl kr ?_ | ((first | refine w_p rfl rfl rfl (fun hc => ?_) (fun hc => ?_) | refine w_q rfl rfl rfl (fun hc => ?_) (fun hc => ?_) | refine w_r rfl (fun hc => ?_) (fun hc => ?_)) <;> ((try simp at hc) <;> try contradiction)))) <;> try (exfalso; omega))
        refine ⟨[(1, 11)], (m + 1, _, _), ⟨hmw, ?_⟩, w_4, ⟨w_1, ⟨rfl, rfl, rfl, rfl, rfl, trivial⟩, rfl⟩⟩
        show rowsX (l3 ++ [_]) = _
        rw [midC_next, hf, ← hl3, ← hvx]
        simp [rowsX]
      · obtain rfl : m = ((n : Int) - f).toNat := by omega
        ((repeat' (first | refine w_a TT rfl rfl rfl sd ?_ | refine w_b ?_ | refine w_c rfl rfl ?_ | refine w_d TT rfl rfl rfl rfl sd ?_ | refine w_e ?_ | refine w_f rfl rfl ?_ | refine w_g ?_ | refine w_h ?_ | refine w_i ?_ | refine w_j ?_ | refine w_k ?_ | refine w_l ?_ | refine w_m rfl ?_ | refine w_n rfl ?_ | refine w_o TM rfl kr ?_ | ((first | refine w_p rfl rfl rfl (fun hc => ?_) (fun hc => ?_) | refine w_q rfl rfl rfl (fun hc => ?_) (fun hc => ?_) | refine w_r rfl (fun hc => ?_) (fun hc => ?_)) <;> ((try simp at hc) <;> try contradiction)))) <;> try (exfalso; omega))
        exact ⟨[], (j + 1, l3, cap3), ⟨hjl, by dsimp only; rw [hl3, ← hf, midC_row (by omega)]⟩, w_4, ⟨w_1, w_2, rfl⟩⟩
    · obtain rfl : j = l.length := by omega
      ((repeat' (first | refine w_a TT rfl rfl rfl sd ?_ | refine w_b ?_ | refine w_c rfl rfl ?_ | refine w_d TT rfl rfl rfl rfl sd ?_ | refine w_e ?_ | refine w_f rfl rfl ?_ | refine w_g ?_ | refine w_h ?_ | refine w_i ?_ | refine w_j ?_ | refine w_k ?_ | refine w_l ?_ | refine w_m rfl ?_ | refine w_n rfl ?_ | refine w_o TM rfl kr ?_ | ((first | refine w_p rfl rfl rfl (fun hc => ?_) (fun hc => ?_) | refine w_q rfl rfl rfl (fun hc => ?_) (fun hc => ?_) | refine w_r rfl (fun hc => ?_) (fun hc => ?_)) <;> ((try simp at hc) <;> try contradiction)))) <;> try (exfalso; omega))
      exact fin rfl w_3 [(1, 1), (2, 4)] (vS 1 1 0 l2.length cap2) [(1, .own 24 cap2 (.rows false true l2)), (2, .tok 3 false l2)] 3 ⟨l2, cap2, by rw [hl2, hll, midC_full], rfl, rfl, rfl⟩ rfl ⟨trivial, ⟨rfl, rfl, trivial⟩, rfl⟩ rfl

set_option maxRecDepth 100000 in
set_option maxHeartbeats 4000000 in
theorem d_subsets (n k : Nat) (hn : n ≤ 8) (hk2 : k ≤ 2) : Does Tryz.prog 59 [vI n, vI k] [] 1 (ChoR 24 3 (chTo n k) 1) := by
  refine Does.intro TT Tryz.func59 rfl (by kernel_rfl) rfl rfl fun E hE => ?_
  ((repeat' (first | refine w_a TT rfl rfl rfl sd ?_ | refine w_b ?_ | refine w_c rfl rfl ?_ | refine w_d TT rfl rfl rfl rfl sd ?_ | refine w_e ?_ | refine w_f rfl rfl ?_ | refine w_g ?_ | refine w_h ?_ | refine w_i ?_ | refine w_j ?_ | refine w_k ?_ | refine w_l ?_ | refine w_m rfl ?_ | refine w_n rfl ?_ | refine w_o TM rfl kr ?_ | ((first | refine w_p rfl rfl rfl (fun hc => ?_) (fun hc => ?_) | refine w_q rfl rfl rfl (fun hc => ?_) (fun hc => ?_) | refine w_r rfl (fun hc => ?_) (fun hc => ?_)) <;> ((try simp at hc) <;> try contradiction)))) <;> try (exfalso; omega))
  ((first | refine awpL_ghost (Ghost.newTok 3 false) ?_ | refine awp_ghost (Ghost.newTok 3 false) ?_ | refine awpH_ghost (Ghost.newTok 3 false) ?_ | refine awpHop_ghost (Ghost.newTok 3 false) ?_); rintro _ _ ⟨rfl, rfl⟩)
  ((first | refine awpL_ghost (Ghost.freeze 1 2 rfl rfl) ?_ | refine awp_ghost (Ghost.freeze 1 2 rfl rfl) ?_ | refine awpH_ghost (Ghost.freeze 1 2 rfl rfl) ?_ | refine awpHop_ghost (Ghost.freeze 1 2 rfl rfl) ?_); rintro _ _ ⟨a0, rfl, rfl⟩)
  ((repeat' (first | refine w_a TT rfl rfl rfl sd ?_ | refine w_b ?_ | refine w_c rfl rfl ?_ | refine w_d TT rfl rfl rfl rfl sd ?_ | refine w_e ?_ | refine w_f rfl rfl ?_ | refine w_g ?_ | refine w_h ?_ | refine w_i ?_ | refine w_j ?_ | refine w_k ?_ | refine w_l ?_ | refine w_m rfl ?_ | refine w_n rfl ?_ | refine w_o TM rfl kr ?_ | ((first | refine w_p rfl rfl rfl (fun hc => ?_) (fun hc => ?_) | refine w_q rfl rfl rfl (fun hc => ?_) (fun hc => ?_) | refine w_r rfl (fun hc => ?_) (fun hc => ?_)) <;> ((try simp at hc) <;> try contradiction)))) <;> try (exfalso; omega))
  refine w_G hE (fun x : Nat × List Row × Nat => x.1 ≤ k ∧ rowsX x.2.1 = chTo n x.1) (fun x => k - x.1)
    (fun x => [(0, vI n), (1, vI k), (5, vS 1 1 0 x.2.1.length x.2.2), (6, vI x.1)])
    (fun x => [(1, .own 24 x.2.2 (.rows false true x.2.1)), (2, .tok 3 false x.2.1)]) 3 [(1, 3)] (0, [⟨a0, 0, [], []⟩], 1) ⟨Nat.zero_le _, rfl⟩ ⟨w_1, w_2, rfl⟩ ?_
  rintro ⟨i, l, cap⟩ ⟨hi, hl⟩
  dsimp only at hi hl
  have hll := rowsX_len hl
  have hkl := chTo_len hn (k := i) (by omega)
  by_cases hik : i < k
  · ((repeat' (first | refine w_a TT rfl rfl rfl sd ?_ | refine w_b ?_ | refine w_c rfl rfl ?_ | refine w_d TT rfl rfl rfl rfl sd ?_ | refine w_e ?_ | refine w_f rfl rfl ?_ | refine w_g ?_ | refine w_h ?_ | refine w_i ?_ | refine w_j ?_ | refine w_k ?_ | refine w_l ?_ | refine w_m rfl ?_ | refine w_n rfl ?_ | refine w_o TM rfl kr ?_ | ((first | refine w_p rfl rfl rfl (fun hc => ?_) (fun hc => ?_) | refine w_q rfl rfl rfl (fun hc => ?_) (fun hc => ?_) | refine w_r rfl (fun hc => ?_) (fun hc => ?_)) <;> ((try simp at hc) <;> try contradiction)))) <;> try (exfalso; omega))
    ((first | refine awpL_ghost (Ghost.newTok 3 false) ?_ | refine awp_ghost (Ghost.newTok 3 false) ?_ | refine awpH_ghost (Ghost.newTok 3 false) ?_ | refine awpHop_ghost (Ghost.newTok 3 false) ?_); rintro _ _ ⟨rfl, rfl⟩)
    refine w_G hE (fun x : Nat × List Row × Nat => x.1 ≤ l.length ∧ rowsX x.2.1 = midC n i x.1 0) (fun x => l.length - x.1)
      (fun x => [(0, vI n), (1, vI k), (5, vS 1 1 0 l.length cap), (6, vI i), (7, vS 3 1 0 x.2.1.length x.2.2), (8, vI x.1)])
      (fun x => [(1, .own 24 cap (.rows false true l)), (2, .tok 3 false l), (3, .own 24 x.2.2 (.rows false true x.2.1)), (4, .tok 3 false x.2.1)]) 5 [] (0, [], 0) ⟨Nat.zero_le _, rfl⟩ ⟨w_1, w_2, rfl⟩ ?_
    rintro ⟨j, l2, cap2⟩ ⟨hj, hl2⟩
    dsimp only at hj hl2
    have hl2n : l2.length ≤ 1000 := by rw [rowsX_len hl2]; exact midC_len hn (by omega) (by omega) (by omega)
    by_cases hjl : j < l.length
    · obtain ⟨hvx, hvm, hvn⟩ := chRow hl hjl
      obtain ⟨-, hvb, f0, f1⟩ := chTo_mem hvm
      have hvl : (l.getD (0 + (j : Int).toNat) rowD).xs.length = i := by rw [hvx, hvn]
      have hnf : (l[j]?.getD rowD).xs.length = i := by rw [← hvl]; simp
      have hbx : ∀ i : Nat, 0 ≤ (l.getD (0 + (j : Int).toNat) rowD).xs.getD i 0 ∧ (l.getD (0 + (j : Int).toNat) rowD).xs.getD i 0 ≤ n := fun i => by
        rw [hvx]
        rcases Nat.lt_or_ge i ((chTo n _).getD j []).length with h | h
        · have := hvb _ (List.getElem_mem h)
          rw [getD_in h]; omega
        · rw [List.getD_eq_getElem?_getD, List.getElem?_eq_none h]; simp
      have hb9 := hbx (0 + ((i : Int) - 1).toNat)
      have hb8 := hb9
      simp only [Nat.zero_add, List.getD_eq_getElem?_getD, Int.toNat_natCast] at hb8
      have e8 : ∀ g : Int, g = (l.getD (0 + (j : Int).toNat) rowD).xs.getD (0 + ((i : Int) - 1).toNat) 0 + 1 → 0 < i → g = fromI ((chTo n i).getD j []) i := fun g hg h0 => by
        rw [hg, hvx, fromI, if_pos (by omega)]
        congr 2; omega
      have e9 : i = 0 → 0 = fromI ((chTo n i).getD j []) i := fun h0 => by
        rw [fromI, if_neg (by omega)]
      ((repeat' (first | (refine awp_cut 10 hE (fun _ : Unit => True) (fun _ => [(0, vI n), (1, vI k), (5, vS 1 1 0 l.length cap), (6, vI i), (7, vS 3 1 0 l2.length cap2), (8, vI j), (9, vI (fromI ((chTo n i).getD j []) i))]) (fun _ => [(1, .own 24 cap (.rows false true l)), (2, .tok 3 false l), (3, .own 24 cap2 (.rows false true l2)), (4, .tok 3 false l2)]) 5 ?_ ?_) | refine w_a TT rfl rfl rfl sd ?_ | refine w_b ?_ | refine w_c rfl rfl ?_ | refine w_d TT rfl rfl rfl rfl sd ?_ | refine w_e ?_ | refine w_f rfl rfl ?_ | refine w_g ?_ | refine w_h ?_ | refine w_i ?_ | refine w_j ?_ | refine w_k ?_ | refine w_l ?_ | refine w_m rfl ?_ | refine w_n rfl ?_ | ((first | refine w_p rfl rfl rfl (fun hc => ?_) (fun hc => ?_) | refine w_q rfl rfl rfl (fun hc => ?_) (fun hc => ?_) | refine w_r rfl (fun hc => ?_) (fun hc => ?_)) <;> ((try simp at hc) <;> try contradiction)))) <;> try (exfalso; omega))
      · rw [← e8 _ rfl (by omega)]
        exact ⟨[], (), trivial, ⟨w_1, w_2, rfl⟩⟩
      · rw [← e9 (by omega)]
        exact ⟨[], (), trivial, ⟨w_1, w_2, rfl⟩⟩
      rintro ⟨⟩ -
      try dsimp only
      generalize hf : fromI ((chTo n i).getD j []) i = f at *
      clear e8 e9 hnf hb8 hb9 hbx
      ((repeat' (first | refine w_a TT rfl rfl rfl sd ?_ | refine w_b ?_ | refine w_c rfl rfl ?_ | refine w_d TT rfl rfl rfl rfl sd ?_ | refine w_e ?_ | refine w_f rfl rfl ?_ | refine w_g ?_ | refine w_h ?_ | refine w_i ?_ | refine w_j ?_ | refine w_k ?_ | refine w_l ?_ | refine w_m rfl ?_ | refine w_n rfl ?_ | refine w_o TM rfl kr ?_ | ((first | refine w_p rfl rfl rfl (fun hc => ?_) (fun hc => ?_) | refine w_q rfl rfl rfl (fun hc => ?_) (fun hc => ?_) | refine w_r rfl (fun hc => ?_) (fun hc => ?_)) <;> ((try simp at hc) <;> try contradiction)))) <;> try (exfalso; omega))
      refine w_G hE (fun x : Nat × List Row × Nat => x.1 ≤ ((n : Int) - f).toNat ∧ rowsX x.2.1 = midC n i j x.1) (fun x => ((n : Int) - f).toNat - x.1)
        (fun x => [(0, vI n), (1, vI k), (5, vS 1 1 0 l.length cap), (6, vI i), (7, vS 3 1 0 x.2.1.length x.2.2), (8, vI j), (10, vI (f + (x.1 : Int)))])
        (fun x => [(1, .own 24 cap (.rows false true l)), (2, .tok 3 false l), (3, .own 24 x.2.2 (.rows false true x.2.1)), (4, .tok 3 false x.2.1)]) 5 [] (0, l2, cap2) ⟨Nat.zero_le _, hl2⟩ ⟨w_1, w_2, rfl⟩ ?_
      rintro ⟨m, l3, cap3⟩ ⟨hm, hl3⟩
      dsimp only at hm hl3
      have hl3n : l3.length ≤ 1000 := by rw [rowsX_len hl3]; exact midC_len hn (by omega) (by omega) (by omega)
      by_cases hmw : m < ((n : Int) - f).toNat
      · ((repeat' (first | refine w_a TT rfl rfl rfl sd ?_ | refine w_b ?_ | refine w_c rfl rfl ?_ | refine w_d TT rfl rfl rfl rfl sd ?_ | refine w_e ?_ | refine w_f rfl rfl ?_ | refine w_g ?_ | refine w_h ?_ | (refine w_x TT rfl rfl rfl rfl rfl sd ?_; intro cap hcap) | refine w_i ?_ | refine w_j ?_ | refine w_k ?_ | refine w_l ?_ | refine w_m rfl ?_ | refine w_n rfl ?_ | refine w_o TM rfl kr ?_ | ((first | refine w_p rfl rfl rfl (fun hc => ?_) (fun hc => ?_) | refine w_q rfl rfl rfl (fun hc => ?_) (fun hc => ?_) | refine w_r rfl (fun hc => ?_) (fun hc => ?_)) <;> ((try simp at hc) <;> try contradiction)))) <;> try (exfalso; omega))
        ((first | refine awpL_ghost (Ghost.freeze 9 4 rfl rfl) ?_ | refine awp_ghost (Ghost.freeze 9 4 rfl rfl) ?_ | refine awpH_ghost (Ghost.freeze 9 4 rfl rfl) ?_ | refine awpHop_ghost (Ghost.freeze 9 4 rfl rfl) ?_); rintro _ _ ⟨a1, rfl, rfl⟩)
        ((repeat' (first | refine w_a TT rfl rfl rfl sd ?_ | refine w_b ?_ | refine w_c rfl rfl ?_ | refine w_d TT rfl rfl rfl rfl sd ?_ | refine w_e ?_ | refine w_f rfl rfl ?_ | refine w_g ?_ | refine w_h ?_ | (refine w_x TT rfl rfl rfl rfl rfl sd ?_; intro cap hcap) | refine w_i ?_ | refine w_j ?_ | refine w_k ?_ | refine w_l ?_ | refine w_m rfl ?_ | refine w_n rfl ?_ | refine w_o TM rfl kr ?_ | ((first | refine w_p rfl rfl rfl (fun hc => ?_) (fun hc => ?_) | refine w_q rfl rfl rfl (fun hc => ?_) (fun hc => ?_) | refine w_r rfl (fun hc => ?_) (fun hc => ?_)) <;> ((try simp at hc) <;> try contradiction)))) <;> try (exfalso; omega))
        refine ⟨[(3, 11)], (m + 1, _, _), ⟨hmw, ?_⟩, w_4, ⟨w_1, ⟨rfl, rfl, rfl, rfl, trivial⟩, rfl⟩⟩
        show rowsX (l3 ++ [_]) = _
        rw [midC_next, hf, ← hl3, ← hvx]
        simp [rowsX]
      · obtain rfl : m = ((n : Int) - f).toNat := by omega
        ((repeat' (first | refine w_a TT rfl rfl rfl sd ?_ | refine w_b ?_ | refine w_c rfl rfl ?_ | refine w_d TT rfl rfl rfl rfl sd ?_ | refine w_e ?_ | refine w_f rfl rfl ?_ | refine w_g ?_ | refine w_h ?_ | refine w_i ?_ | refine w_j ?_ | refine w_k ?_ | refine w_l ?_ | refine w_m rfl ?_ | refine w_n rfl ?_ | refine w_o TM rfl kr ?_ | ((first | refine w_p rfl rfl rfl (fun hc => ?_) (fun hc => ?_) | refine w_q rfl rfl rfl (fun hc => ?_) (fun hc => ?_) | refine w_r rfl (fun hc => ?_) (fun hc => ?_)) <;> ((try simp at hc) <;> try contradiction)))) <;> try (exfalso; omega))
        exact ⟨[], (j + 1, l3, cap3), ⟨hjl, by dsimp only; rw [hl3, ← hf, midC_row (by omega)]⟩, w_4, ⟨w_1, w_2, rfl⟩⟩
    · obtain rfl : j = l.length := by omega
      ((repeat' (first | refine w_a TT rfl rfl rfl sd ?_ | refine w_b ?_ | refine w_c rfl rfl ?_ | refine w_d TT rfl rfl rfl rfl sd ?_ | refine w_e ?_ | refine w_f rfl rfl ?_ | refine w_g ?_ | refine w_h ?_ | refine w_i ?_ | refine w_j ?_ | refine w_k ?_ | refine w_l ?_ | refine w_m rfl ?_ | refine w_n rfl ?_ | refine w_o TM rfl kr ?_ | ((first | refine w_p rfl rfl rfl (fun hc => ?_) (fun hc => ?_) | refine w_q rfl rfl rfl (fun hc => ?_) (fun hc => ?_) | refine w_r rfl (fun hc => ?_) (fun hc => ?_)) <;> ((try simp at hc) <;> try contradiction)))) <;> try (exfalso; omega))
      exact ⟨[(1, 3), (2, 4)], (i + 1, l2, cap2), ⟨hik, by dsimp only; rw [hl2, hll, midC_full]⟩, w_4, ⟨w_1, w_2, rfl⟩⟩
  · obtain rfl : i = k := by omega
    ((repeat' (first | refine w_a TT rfl rfl rfl sd ?_ | refine w_b ?_ | refine w_c rfl rfl ?_ | refine w_d TT rfl rfl rfl rfl sd ?_ | refine w_e ?_ | refine w_f rfl rfl ?_ | refine w_g ?_ | refine w_h ?_ | refine w_i ?_ | refine w_j ?_ | refine w_k ?_ | refine w_l ?_ | refine w_m rfl ?_ | refine w_n rfl ?_ | refine w_o TM rfl kr ?_ | ((first | refine w_p rfl rfl rfl (fun hc => ?_) (fun hc => ?_) | refine w_q rfl rfl rfl (fun hc => ?_) (fun hc => ?_) | refine w_r rfl (fun hc => ?_) (fun hc => ?_)) <;> ((try simp at hc) <;> try contradiction)))) <;> try (exfalso; omega))
    exact fin rfl w_3 [] (vS 1 1 0 l.length cap) [(1, .own 24 cap (.rows false true l)), (2, .tok 3 false l)] 3 ⟨l, cap, hl, rfl, rfl, rfl⟩ rfl ⟨trivial, ⟨rfl, rfl, trivial⟩, rfl⟩ rfl

end Go.Proofs.YtfkbjkmlpinoeaaGreat

/-
  THE KIT'S CONTRACT OF A LIBRARY FUNCTION, laid at this program: tables of numbers.
-/
namespace Go.Proofs.YtfkbjkmlpinoeaaGreat
open Go.Shelf Go.Proofs

def Tryz.l6_ren : Go.Shelf.Ren := ⟨fun | 6 => 50 | 15 => 97 | 14 => 96 | 28 => 137 | 29 => 138 | 20 => 129 | 21 => 130 | 22 => 131 | 23 => 132 | 24 => 133 | 25 => 134 | 26 => 135 | 27 => 136 | 46 => 158 | 47 => 159 | 48 => 160 | 49 => 161 | 50 => 162 | 57 => 177 | n => n, fun | 22 => 37 | 24 => 24 | 25 => 61 | 3 => 3 | 39 => 93 | 0 => 0 | 53 => 120 | 55 => 122 | 4 => 4 | 46 => 114 | 45 => 113 | 50 => 30 | 5 => 5 | 9 => 9 | 66 => 137 | 70 => 141 | 76 => 150 | 77 => 151 | n => n, fun | n => n⟩
theorem Tryz.l6 : Go.Proofs.SlLaysF.n6 Tryz.prog Tryz.l6_ren := {
  mixed := by kernel_rfl
  f6 := ⟨Tryz.f50.name, by decide, Tryz.func50.trans (congrArg some (by kernel_rfl))⟩
  f14 := ⟨Tryz.f96.name, by decide, Tryz.func96.trans (congrArg some (by kernel_rfl))⟩
  f15 := Tryz.func97.trans (congrArg some (by kernel_rfl))
  f20 := ⟨Tryz.f129.name, by decide, Tryz.func129.trans (congrArg some (by kernel_rfl))⟩
  f21 := ⟨Tryz.f130.name, by decide, Tryz.func130.trans (congrArg some (by kernel_rfl))⟩
  f22 := ⟨Tryz.f131.name, by decide, Tryz.func131.trans (congrArg some (by kernel_rfl))⟩
  f23 := ⟨Tryz.f132.name, by decide, Tryz.func132.trans (congrArg some (by kernel_rfl))⟩
  f24 := ⟨Tryz.f133.name, by decide, Tryz.func133.trans (congrArg some (by kernel_rfl))⟩
  f25 := ⟨Tryz.f134.name, by decide, Tryz.func134.trans (congrArg some (by kernel_rfl))⟩
  f26 := ⟨Tryz.f135.name, by decide, Tryz.func135.trans (congrArg some (by kernel_rfl))⟩
  f27 := ⟨Tryz.f136.name, by decide, Tryz.func136.trans (congrArg some (by kernel_rfl))⟩
  f28 := Tryz.func137.trans (congrArg some (by kernel_rfl))
  f29 := Tryz.func138.trans (congrArg some (by kernel_rfl))
  f46 := ⟨Tryz.f158.name, by decide, Tryz.func158.trans (congrArg some (by kernel_rfl))⟩
  f47 := Tryz.func159.trans (congrArg some (by kernel_rfl))
  f48 := Tryz.func160.trans (congrArg some (by kernel_rfl))
  f49 := ⟨Tryz.f161.name, by decide, Tryz.func161.trans (congrArg some (by kernel_rfl))⟩
  f50 := ⟨Tryz.f162.name, by decide, Tryz.func162.trans (congrArg some (by kernel_rfl))⟩
  f57 := ⟨Tryz.f177.name, by decide, Tryz.func177.trans (congrArg some (by kernel_rfl))⟩
  t0 := Tryz.underlying0
  a0 := Tryz.isAgg0
  z0 := Tryz.sizeOf0
  v0 := Tryz.zeroValue0
  t3 := Tryz.underlying3
  a3 := Tryz.isAgg3
  z3 := Tryz.sizeOf3
  v3 := Tryz.zeroValue3
  t4 := Tryz.underlying4
  a4 := Tryz.isAgg4
  z4 := Tryz.sizeOf4
  v4 := Tryz.zeroValue4
  t5 := Tryz.underlying5
  a5 := Tryz.isAgg5
  z5 := Tryz.sizeOf5
  v5 := Tryz.zeroValue5
  t9 := Tryz.underlying9
  a9 := Tryz.isAgg9
  z9 := Tryz.sizeOf9
  v9 := Tryz.zeroValue9
  t22 := Tryz.underlying37
  a22 := Tryz.isAgg37
  z22 := Tryz.sizeOf37
  v22 := Tryz.zeroValue37
  a24 := Tryz.isAgg24
  z24 := Tryz.sizeOf24
  t25 := Tryz.underlying61
  a25 := Tryz.isAgg61
  z25 := Tryz.sizeOf61
  v25 := Tryz.zeroValue61
  t39 := Tryz.underlying93
  a39 := Tryz.isAgg93
  z39 := Tryz.sizeOf93
  v39 := Tryz.zeroValue93
  t45 := Tryz.underlying113
  a45 := Tryz.isAgg113
  z45 := Tryz.sizeOf113
  v45 := Tryz.zeroValue113
  t46 := Tryz.underlying114
  a46 := Tryz.isAgg114
  z46 := Tryz.sizeOf114
  v46 := Tryz.zeroValue114
  t50 := Tryz.underlying30
  a50 := Tryz.isAgg30
  z50 := Tryz.sizeOf30
  v50 := Tryz.zeroValue30
  t53 := Tryz.underlying120
  a53 := Tryz.isAgg120
  z53 := Tryz.sizeOf120
  v53 := Tryz.zeroValue120
  t55 := Tryz.underlying122
  a55 := Tryz.isAgg122
  z55 := Tryz.sizeOf122
  v55 := Tryz.zeroValue122
  t66 := Tryz.underlying137
  a66 := Tryz.isAgg137
  z66 := Tryz.sizeOf137
  v66 := Tryz.zeroValue137
  t70 := Tryz.underlying141
  a70 := Tryz.isAgg141
  z70 := Tryz.sizeOf141
  v70 := Tryz.zeroValue141
  t76 := Tryz.underlying150
  a76 := Tryz.isAgg150
  z76 := Tryz.sizeOf150
  v76 := Tryz.zeroValue150
  t77 := Tryz.underlying151
  a77 := Tryz.isAgg151
  z77 := Tryz.sizeOf151
  v77 := Tryz.zeroValue151 }
end Go.Proofs.YtfkbjkmlpinoeaaGreat
