/-
  TEXTS OF THE PROOF, put together: bRaysLaw.
-/
import Derived.Test.YtfkbjkmlpinoeaaGreatM34
import Derived.Test.YtfkbjkmlpinoeaaGreatM37
import Derived.Test.YtfkbjkmlpinoeaaGreatM25
set_option linter.unusedVariables false
set_option linter.unusedSimpArgs false
namespace Go.Proofs.YtfkbjkmlpinoeaaGreat
open Go.RowKit

theorem raysT_eq {r c : Int} {xs : List Int} : raysT r c xs = raysB r c xs := rfl
theorem raysO_some {r c : Int} {xs : List Int} {L : List (List Int)} (h : raysO r c xs = some L) : ∃ (a b : Nat) (raw : List (List Int)), r = a ∧ c = b ∧ a ≤ 8 ∧ 1 ≤ b ∧ b ≤ 3 ∧ xs.length = a * b ∧ xs.all numB = true ∧ coneM r c xs = true ∧ pointB r c xs = true ∧ rawO a b xs = some raw ∧ L = addsL raw := by
  unfold raysO at h
  split at h
  · rename_i hp
    have hC : coneM r c xs = true := by
      unfold pointB at hp
      split at hp
      · simp only [Bool.and_eq_true] at hp; exact hp.1
      · cases hp
    obtain ⟨a, b, rfl, rfl, ha, hb1, hb, hx, hnum⟩ := coneM_dims hC
    rw [Option.map_eq_some_iff] at h
    obtain ⟨raw, h1, h2⟩ := h
    exact ⟨a, b, raw, rfl, rfl, ha, hb1, hb, hx, hnum, hC, hp, h1, h2.symm⟩
  · cases h
theorem raysO_row {r c : Int} {xs : List Int} {L : List (List Int)} (h : raysO r c xs = some L) : L.length ≤ 24 ∧ ∀ v ∈ L, (v.length : Int) = c ∧ v.all numB = true := by
  obtain ⟨a, b, raw, rfl, rfl, ha, hb1, hb, hx, hnum, hC, hp, h1, rfl⟩ := raysO_some h
  refine ⟨rays_len ha hx hnum hC hb1 hb h1, fun v hv => ?_⟩
  obtain ⟨e1, e2⟩ := cand_row hx hnum hC hb1 h1 v (mem_addsL.1 hv)
  exact ⟨by omega, e2⟩
theorem raysB_len {r c : Int} {xs : List Int} {s : List Int × Nat} (h : raysB r c xs = some s) : s.1.length ≤ 72 := by
  rw [raysB, Option.map_eq_some_iff] at h
  obtain ⟨L, h1, rfl⟩ := h
  obtain ⟨a, b, raw, rfl, rfl, ha, hb1, hb, hx, hnum, hC, hp, -, -⟩ := raysO_some h1
  obtain ⟨e1, e2⟩ := raysO_row h1
  dsimp only
  rw [flat_len_le (c := b) fun v hv => by have := (e2 v hv).1; omega]
  exact Nat.mul_le_mul e1 hb
theorem d_facI (r c : Int) (xs : List Int) (ca : Nat) (hl : xs.length ≤ 1099511627776) (hca : xs.length ≤ ca) : Does Tryz.prog 19 [vM r c 1 xs.length ca] [(1, .ro (.ints xs))] 2 (BasR 3 c (raysB r c xs) 2) := by
  have h := d_raysI r c xs ca hl hca
  refine Does.intro TT Tryz.func19 rfl (by kernel_rfl) rfl rfl fun E hE => ?_
  cases hB : raysB r c xs with
  | none =>
    rw [hB] at h
    ((repeat' (first | refine w_a TT rfl rfl rfl sd ?_ | refine w_b ?_ | refine w_c rfl rfl ?_ | refine w_d TT rfl rfl rfl rfl sd ?_ | refine w_e ?_ | refine w_f rfl rfl ?_ | refine w_g ?_ | refine w_h ?_ | ((refine w_E (h) rfl rfl rfl rfl rfl rfl rfl ft rfl ?_); rintro v Hout n1 ⟨rfl, rfl, rfl⟩) | refine w_i ?_ | refine w_j ?_ | refine w_k ?_ | refine w_l ?_ | refine w_m rfl ?_ | refine w_n rfl ?_ | refine w_o TM rfl kr ?_ | ((first | refine w_p rfl rfl rfl (fun hc => ?_) (fun hc => ?_) | refine w_q rfl rfl rfl (fun hc => ?_) (fun hc => ?_) | refine w_r rfl (fun hc => ?_) (fun hc => ?_)) <;> ((try simp at hc) <;> try contradiction)))) <;> try (exfalso; omega))
    exact fin rfl w_3 [] (.tup [.agg zeroM, .one (.bool false)]) [] 2 ⟨rfl, rfl, rfl⟩ rfl ⟨trivial, trivial, rfl⟩ rfl
  | some s =>
    rw [hB] at h
    ((repeat' (first | refine w_a TT rfl rfl rfl sd ?_ | refine w_b ?_ | refine w_c rfl rfl ?_ | refine w_d TT rfl rfl rfl rfl sd ?_ | refine w_e ?_ | refine w_f rfl rfl ?_ | refine w_g ?_ | refine w_h ?_ | ((refine w_E (h) rfl rfl rfl rfl rfl rfl rfl ft rfl ?_); rintro v Hout n1 ⟨cap2, hcap2, rfl, rfl, rfl⟩) | refine w_i ?_ | refine w_j ?_ | refine w_k ?_ | refine w_l ?_ | refine w_m rfl ?_ | refine w_n rfl ?_ | refine w_o TM rfl kr ?_ | ((first | refine w_p rfl rfl rfl (fun hc => ?_) (fun hc => ?_) | refine w_q rfl rfl rfl (fun hc => ?_) (fun hc => ?_) | refine w_r rfl (fun hc => ?_) (fun hc => ?_)) <;> ((try simp at hc) <;> try contradiction)))) <;> try (exfalso; omega))
    all_goals first | exact fin rfl w_3 [(2, 4)] (.tup [.agg [.int s.2, .int c, .sl 2 1 0 s.1.length cap2], .one (.bool true)]) [(2, .own 3 cap2 (.ints s.1))] 3 ⟨cap2, hcap2, rfl, rfl, rfl⟩ rfl ⟨trivial, ⟨rfl, trivial⟩, rfl⟩ rfl | exact fin rfl w_3 [(2, 3)] (.tup [.agg [.int s.2, .int c, .sl 2 1 0 s.1.length cap2], .one (.bool true)]) [(2, .own 3 cap2 (.ints s.1))] 3 ⟨cap2, hcap2, rfl, rfl, rfl⟩ rfl ⟨trivial, ⟨rfl, trivial⟩, rfl⟩ rfl
theorem d_facS (r c : Int) (xs : List Int) (ca : Nat) (hl : xs.length ≤ 1099511627776) : Does Tryz.prog 31 [vM r c 1 xs.length ca] [(1, .ro (.ints xs))] 2 (BasR 3 c (raysT r c xs) 2) := by
  have h := d_raysS r c xs ca hl
  refine Does.intro TT Tryz.func31 rfl (by kernel_rfl) rfl rfl fun E hE => ?_
  cases hB : raysT r c xs with
  | none =>
    rw [hB] at h
    ((repeat' (first | refine w_a TT rfl rfl rfl sd ?_ | refine w_b ?_ | refine w_c rfl rfl ?_ | refine w_d TT rfl rfl rfl rfl sd ?_ | refine w_e ?_ | refine w_f rfl rfl ?_ | refine w_g ?_ | refine w_h ?_ | ((refine w_E (h) rfl rfl rfl rfl rfl rfl rfl ft rfl ?_); rintro v Hout n1 ⟨rfl, rfl, rfl⟩) | refine w_i ?_ | refine w_j ?_ | refine w_k ?_ | refine w_l ?_ | refine w_m rfl ?_ | refine w_n rfl ?_ | refine w_o TM rfl kr ?_ | ((first | refine w_p rfl rfl rfl (fun hc => ?_) (fun hc => ?_) | refine w_q rfl rfl rfl (fun hc => ?_) (fun hc => ?_) | refine w_r rfl (fun hc => ?_) (fun hc => ?_)) <;> ((try simp at hc) <;> try contradiction)))) <;> try (exfalso; omega))
    exact fin rfl w_3 [] (.tup [.agg zeroM, .one (.bool false)]) [] 2 ⟨rfl, rfl, rfl⟩ rfl ⟨trivial, trivial, rfl⟩ rfl
  | some s =>
    rw [hB] at h
    ((repeat' (first | refine w_a TT rfl rfl rfl sd ?_ | refine w_b ?_ | refine w_c rfl rfl ?_ | refine w_d TT rfl rfl rfl rfl sd ?_ | refine w_e ?_ | refine w_f rfl rfl ?_ | refine w_g ?_ | refine w_h ?_ | ((refine w_E (h) rfl rfl rfl rfl rfl rfl rfl ft rfl ?_); rintro v Hout n1 ⟨cap2, hcap2, rfl, rfl, rfl⟩) | refine w_i ?_ | refine w_j ?_ | refine w_k ?_ | refine w_l ?_ | refine w_m rfl ?_ | refine w_n rfl ?_ | refine w_o TM rfl kr ?_ | ((first | refine w_p rfl rfl rfl (fun hc => ?_) (fun hc => ?_) | refine w_q rfl rfl rfl (fun hc => ?_) (fun hc => ?_) | refine w_r rfl (fun hc => ?_) (fun hc => ?_)) <;> ((try simp at hc) <;> try contradiction)))) <;> try (exfalso; omega))
    all_goals first | exact fin rfl w_3 [(2, 4)] (.tup [.agg [.int s.2, .int c, .sl 2 1 0 s.1.length cap2], .one (.bool true)]) [(2, .own 3 cap2 (.ints s.1))] 3 ⟨cap2, hcap2, rfl, rfl, rfl⟩ rfl ⟨trivial, ⟨rfl, trivial⟩, rfl⟩ rfl | exact fin rfl w_3 [(2, 3)] (.tup [.agg [.int s.2, .int c, .sl 2 1 0 s.1.length cap2], .one (.bool true)]) [(2, .own 3 cap2 (.ints s.1))] 3 ⟨cap2, hcap2, rfl, rfl, rfl⟩ rfl ⟨trivial, ⟨rfl, trivial⟩, rfl⟩ rfl
set_option maxRecDepth 100000 in
set_option maxHeartbeats 16000000 in
theorem d_lawRays (r c : Int) (xs : List Int) (ca : Nat) (hn : xs.length ≤ 9223372036854775807) :
    Does Tryz.prog 5 [vM r c 1 xs.length ca] [(1, .ro (.ints xs))] 2 (Ret (vB true) 2) := by
  refine Does.intro TT Tryz.func5 rfl (by kernel_rfl) rfl rfl fun E hE => ?_
  have e1 := d_szMatrix r c xs ca 1048576 (by omega) hn
  by_cases q1 : 0 ≤ szL 1048576 xs.length
  · have hl : xs.length ≤ 1099511627776 := by unfold szL at q1; split at q1 <;> omega
    have h1 := fun ca => d_raysS r c xs ca hl
    have h2 := fun ca h => d_raysI r c xs ca hl h
    rw [raysT_eq] at h1
    cases hR : raysB r c xs with
    | none =>
      rw [hR] at h1 h2
      ((repeat' (first | refine w_a TT rfl rfl rfl sd ?_ | refine w_b ?_ | refine w_c rfl rfl ?_ | refine w_d TT rfl rfl rfl rfl sd ?_ | refine w_e ?_ | refine w_f rfl rfl ?_ | refine w_g ?_ | refine w_h ?_ | (first | refine w_z (e1) rfl rfl rfl rfl rfl rfl rfl rfl ft rfl rfl ?_ | refine w_A (e1) rfl rfl rfl rfl rfl rfl rfl rfl ft rfl rfl ?_) | (refine w_C (d_toMatrix r c xs _ hl) rfl rfl rfl rfl rfl rfl rfl ft rfl rfl (MadeMx.out) ?_; rintro v b ⟨c1a, hc1a, rfl, he, -⟩; cases he) | ((refine w_E (h1 _) rfl rfl rfl rfl rfl rfl rfl ft rfl ?_); rintro v Hout n1 ⟨rfl, rfl, rfl⟩) | ((refine w_E (h2 _ hc1a) rfl rfl rfl rfl rfl rfl rfl ft rfl ?_); rintro v Hout n1 ⟨rfl, rfl, rfl⟩) | (first | refine w_z (d_eqMatrix 0 0 0 0 [] [] 0 0 (by decide) (by decide)) rfl rfl rfl rfl rfl rfl rfl rfl ft rfl rfl ?_ | refine w_A (d_eqMatrix 0 0 0 0 [] [] 0 0 (by decide) (by decide)) rfl rfl rfl rfl rfl rfl rfl rfl ft rfl rfl ?_) | ((refine w_E (d_markMatrix r c xs _ _ 1 hl (by omega) (by omega)) rfl rfl rfl rfl rfl rfl rfl ft rfl ?_); rintro v Hout n1 ⟨rfl, rfl, rfl⟩) | ((refine w_E (d_markMatrix 0 0 [] 0 0 1 (by decide) (by omega) (by omega)) rfl rfl rfl rfl rfl rfl rfl ft rfl ?_); rintro v Hout n1 ⟨rfl, rfl, rfl⟩) | (first | refine w_z (d_heldMatrix 0 0 0 0 1 (by decide) (by omega) (by omega)) rfl rfl rfl rfl rfl rfl rfl rfl ft rfl rfl ?_ | refine w_A (d_heldMatrix 0 0 0 0 1 (by decide) (by omega) (by omega)) rfl rfl rfl rfl rfl rfl rfl rfl ft rfl rfl ?_) | refine w_i ?_ | refine w_j ?_ | refine w_k ?_ | refine w_l ?_ | refine w_m rfl ?_ | refine w_n rfl ?_ | ((first | refine w_p rfl rfl rfl (fun hc => ?_) (fun hc => ?_) | refine w_q rfl rfl rfl (fun hc => ?_) (fun hc => ?_) | refine w_r rfl (fun hc => ?_) (fun hc => ?_)) <;> ((try simp at hc) <;> try contradiction)))) <;> try (exfalso; omega))
      refine awp_held TM [(2, _), (6, _)] sb rfl (fun ρs => ?_)
      refine w_t TT 0 rfl kr kr kr nh rfl rfl rfl rfl sd ?_
      refine w_t TT 1 rfl kr kr kr nh rfl rfl rfl rfl sd ?_
      refine w_u [2] kr rfl ⟨?_, trivial⟩
      first | (refine w_s TT 2 rfl rfl rfl rfl sd sb rfl ?_) | (refine w_D _ (d_toMatrix r c xs _ hl) rfl rfl rfl rfl rfl rfl rfl rfl ft rfl rfl (MadeMx.out) sb rfl rfl ?_; rintro v b ⟨c1b, hc1b, rfl, he, -⟩; cases he) | refine w_B _ (d_eqMatrix r c r c xs xs _ _ hl hl) rfl rfl rfl rfl rfl rfl rfl rfl rfl ft rfl rfl sb rfl ?_
      refine w_u [3] kr rfl ⟨?_, trivial⟩
      first | (refine w_s TT 3 rfl rfl rfl rfl sd sb rfl ?_) | (refine w_D _ (d_toMatrix r c xs _ hl) rfl rfl rfl rfl rfl rfl rfl rfl ft rfl rfl (MadeMx.out) sb rfl rfl ?_; rintro v b ⟨c1b, hc1b, rfl, he, -⟩; cases he) | refine w_B _ (d_eqMatrix r c r c xs xs _ _ hl hl) rfl rfl rfl rfl rfl rfl rfl rfl rfl ft rfl rfl sb rfl ?_
      refine w_t TT 4 rfl kr kr kr nh rfl rfl rfl rfl sd ?_
      refine w_v kr ?_
      rotate_left
      ((repeat' (first | refine w_a TT rfl rfl rfl sd ?_ | refine w_b ?_ | refine w_c rfl rfl ?_ | refine w_d TT rfl rfl rfl rfl sd ?_ | refine w_e ?_ | refine w_f rfl rfl ?_ | refine w_g ?_ | refine w_h ?_ | (refine w_C (d_toMatrix r c xs _ hl) rfl rfl rfl rfl rfl rfl rfl ft rfl rfl (MadeMx.out) ?_; rintro v b ⟨c1a, hc1a, rfl, he, -⟩; cases he) | ((refine w_E (h1 _) rfl rfl rfl rfl rfl rfl rfl ft rfl ?_); rintro v Hout n1 ⟨rfl, rfl, rfl⟩) | ((refine w_E (h2 _ hc1a) rfl rfl rfl rfl rfl rfl rfl ft rfl ?_); rintro v Hout n1 ⟨rfl, rfl, rfl⟩) | (first | refine w_z (d_eqMatrix 0 0 0 0 [] [] 0 0 (by decide) (by decide)) rfl rfl rfl rfl rfl rfl rfl rfl ft rfl rfl ?_ | refine w_A (d_eqMatrix 0 0 0 0 [] [] 0 0 (by decide) (by decide)) rfl rfl rfl rfl rfl rfl rfl rfl ft rfl rfl ?_) | ((refine w_E (d_markMatrix r c xs _ _ 1 hl (by omega) (by omega)) rfl rfl rfl rfl rfl rfl rfl ft rfl ?_); rintro v Hout n1 ⟨rfl, rfl, rfl⟩) | ((refine w_E (d_markMatrix 0 0 [] 0 0 1 (by decide) (by omega) (by omega)) rfl rfl rfl rfl rfl rfl rfl ft rfl ?_); rintro v Hout n1 ⟨rfl, rfl, rfl⟩) | (first | refine w_z (d_heldMatrix 0 0 0 0 1 (by decide) (by omega) (by omega)) rfl rfl rfl rfl rfl rfl rfl rfl ft rfl rfl ?_ | refine w_A (d_heldMatrix 0 0 0 0 1 (by decide) (by omega) (by omega)) rfl rfl rfl rfl rfl rfl rfl rfl ft rfl rfl ?_) | refine w_i ?_ | refine w_j ?_ | refine w_k ?_ | refine w_l ?_ | refine w_m rfl ?_ | refine w_n rfl ?_ | refine w_o TM rfl kr ?_ | ((first | refine w_p rfl rfl rfl (fun hc => ?_) (fun hc => ?_) | refine w_q rfl rfl rfl (fun hc => ?_) (fun hc => ?_) | refine w_r rfl (fun hc => ?_) (fun hc => ?_)) <;> ((try simp at hc) <;> try contradiction)))) <;> try (exfalso; omega))
      all_goals refine fin_ret rfl w_3 (rfl) rfl
    | some s =>
      rw [hR] at h1 h2
      have hyl := raysB_len hR
      have hyy : s.1.length ≤ 1099511627776 := by omega
      ((repeat' (first | refine w_a TT rfl rfl rfl sd ?_ | refine w_b ?_ | refine w_c rfl rfl ?_ | refine w_d TT rfl rfl rfl rfl sd ?_ | refine w_e ?_ | refine w_f rfl rfl ?_ | refine w_g ?_ | refine w_h ?_ | (first | refine w_z (e1) rfl rfl rfl rfl rfl rfl rfl rfl ft rfl rfl ?_ | refine w_A (e1) rfl rfl rfl rfl rfl rfl rfl rfl ft rfl rfl ?_) | (refine w_C (d_toMatrix r c xs _ hl) rfl rfl rfl rfl rfl rfl rfl ft rfl rfl (MadeMx.out) ?_; rintro v b ⟨c1a, hc1a, rfl, he, -⟩; cases he) | ((refine w_E (h1 _) rfl rfl rfl rfl rfl rfl rfl ft rfl ?_); rintro v Hout n1 ⟨cw, hcw, rfl, rfl, rfl⟩) | ((refine w_E (h2 _ hc1a) rfl rfl rfl rfl rfl rfl rfl ft rfl ?_); rintro v Hout n1 ⟨cw, hcw, rfl, rfl, rfl⟩) | (first | refine w_z (d_eqMatrix s.2 c s.2 c s.1 s.1 _ _ hyy hyy) rfl rfl rfl rfl rfl rfl rfl rfl ft rfl rfl ?_ | refine w_A (d_eqMatrix s.2 c s.2 c s.1 s.1 _ _ hyy hyy) rfl rfl rfl rfl rfl rfl rfl rfl ft rfl rfl ?_) | ((refine w_E (d_markMatrix r c xs _ _ 1 hl (by omega) (by omega)) rfl rfl rfl rfl rfl rfl rfl ft rfl ?_); rintro v Hout n1 ⟨rfl, rfl, rfl⟩) | ((refine w_E (d_markMatrix s.2 c s.1 _ _ 1 hyy (by omega) (by omega)) rfl rfl rfl rfl rfl rfl rfl ft rfl ?_); rintro v Hout n1 ⟨rfl, rfl, rfl⟩) | (first | refine w_z (d_heldMatrix s.2 c s.1.length _ 1 hyy (by omega) (by omega)) rfl rfl rfl rfl rfl rfl rfl rfl ft rfl rfl ?_ | refine w_A (d_heldMatrix s.2 c s.1.length _ 1 hyy (by omega) (by omega)) rfl rfl rfl rfl rfl rfl rfl rfl ft rfl rfl ?_) | refine w_i ?_ | refine w_j ?_ | refine w_k ?_ | refine w_l ?_ | refine w_m rfl ?_ | refine w_n rfl ?_ | ((first | refine w_p rfl rfl rfl (fun hc => ?_) (fun hc => ?_) | refine w_q rfl rfl rfl (fun hc => ?_) (fun hc => ?_) | refine w_r rfl (fun hc => ?_) (fun hc => ?_)) <;> ((try simp at hc) <;> try contradiction)))) <;> try (exfalso; omega))
      refine awp_held TM [(2, _), (7, _)] sb rfl (fun ρs => ?_)
      refine w_t TT 0 rfl kr kr kr nh rfl rfl rfl rfl sd ?_
      refine w_t TT 1 rfl kr kr kr nh rfl rfl rfl rfl sd ?_
      refine w_u [2] kr rfl ⟨?_, trivial⟩
      first | (refine w_s TT 2 rfl rfl rfl rfl sd sb rfl ?_) | (refine w_D _ (d_toMatrix r c xs _ hl) rfl rfl rfl rfl rfl rfl rfl rfl ft rfl rfl (MadeMx.out) sb rfl rfl ?_; rintro v b ⟨c1b, hc1b, rfl, he, -⟩; cases he) | refine w_B _ (d_eqMatrix r c r c xs xs _ _ hl hl) rfl rfl rfl rfl rfl rfl rfl rfl rfl ft rfl rfl sb rfl ?_
      refine w_u [3] kr rfl ⟨?_, trivial⟩
      first | (refine w_s TT 3 rfl rfl rfl rfl sd sb rfl ?_) | (refine w_D _ (d_toMatrix r c xs _ hl) rfl rfl rfl rfl rfl rfl rfl rfl ft rfl rfl (MadeMx.out) sb rfl rfl ?_; rintro v b ⟨c1b, hc1b, rfl, he, -⟩; cases he) | refine w_B _ (d_eqMatrix r c r c xs xs _ _ hl hl) rfl rfl rfl rfl rfl rfl rfl rfl rfl ft rfl rfl sb rfl ?_
      refine w_t TT 4 rfl kr kr kr nh rfl rfl rfl rfl sd ?_
      refine w_v kr ?_
      rotate_left
      ((repeat' (first | refine w_a TT rfl rfl rfl sd ?_ | refine w_b ?_ | refine w_c rfl rfl ?_ | refine w_d TT rfl rfl rfl rfl sd ?_ | refine w_e ?_ | refine w_f rfl rfl ?_ | refine w_g ?_ | refine w_h ?_ | (refine w_C (d_toMatrix r c xs _ hl) rfl rfl rfl rfl rfl rfl rfl ft rfl rfl (MadeMx.out) ?_; rintro v b ⟨c1a, hc1a, rfl, he, -⟩; cases he) | ((refine w_E (h1 _) rfl rfl rfl rfl rfl rfl rfl ft rfl ?_); rintro v Hout n1 ⟨cw, hcw, rfl, rfl, rfl⟩) | ((refine w_E (h2 _ hc1a) rfl rfl rfl rfl rfl rfl rfl ft rfl ?_); rintro v Hout n1 ⟨cw, hcw, rfl, rfl, rfl⟩) | (first | refine w_z (d_eqMatrix s.2 c s.2 c s.1 s.1 _ _ hyy hyy) rfl rfl rfl rfl rfl rfl rfl rfl ft rfl rfl ?_ | refine w_A (d_eqMatrix s.2 c s.2 c s.1 s.1 _ _ hyy hyy) rfl rfl rfl rfl rfl rfl rfl rfl ft rfl rfl ?_) | ((refine w_E (d_markMatrix r c xs _ _ 1 hl (by omega) (by omega)) rfl rfl rfl rfl rfl rfl rfl ft rfl ?_); rintro v Hout n1 ⟨rfl, rfl, rfl⟩) | ((refine w_E (d_markMatrix s.2 c s.1 _ _ 1 hyy (by omega) (by omega)) rfl rfl rfl rfl rfl rfl rfl ft rfl ?_); rintro v Hout n1 ⟨rfl, rfl, rfl⟩) | (first | refine w_z (d_heldMatrix s.2 c s.1.length _ 1 hyy (by omega) (by omega)) rfl rfl rfl rfl rfl rfl rfl rfl ft rfl rfl ?_ | refine w_A (d_heldMatrix s.2 c s.1.length _ 1 hyy (by omega) (by omega)) rfl rfl rfl rfl rfl rfl rfl rfl ft rfl rfl ?_) | refine w_i ?_ | refine w_j ?_ | refine w_k ?_ | refine w_l ?_ | refine w_m rfl ?_ | refine w_n rfl ?_ | refine w_o TM rfl kr ?_ | ((first | refine w_p rfl rfl rfl (fun hc => ?_) (fun hc => ?_) | refine w_q rfl rfl rfl (fun hc => ?_) (fun hc => ?_) | refine w_r rfl (fun hc => ?_) (fun hc => ?_)) <;> ((try simp at hc) <;> try contradiction)))) <;> try (exfalso; omega))
      all_goals refine fin_ret rfl w_3 (rfl) rfl
  · ((repeat' (first | refine w_a TT rfl rfl rfl sd ?_ | refine w_b ?_ | refine w_c rfl rfl ?_ | refine w_d TT rfl rfl rfl rfl sd ?_ | refine w_e ?_ | refine w_f rfl rfl ?_ | refine w_g ?_ | refine w_h ?_ | (first | refine w_z (e1) rfl rfl rfl rfl rfl rfl rfl rfl ft rfl rfl ?_ | refine w_A (e1) rfl rfl rfl rfl rfl rfl rfl rfl ft rfl rfl ?_) | refine w_i ?_ | refine w_j ?_ | refine w_k ?_ | refine w_l ?_ | refine w_m rfl ?_ | refine w_n rfl ?_ | ((first | refine w_p rfl rfl rfl (fun hc => ?_) (fun hc => ?_) | refine w_q rfl rfl rfl (fun hc => ?_) (fun hc => ?_) | refine w_r rfl (fun hc => ?_) (fun hc => ?_)) <;> ((try simp at hc) <;> try contradiction)))) <;> try (exfalso; omega))
    all_goals refine fin_ret rfl w_3 (rfl) rfl
set_option maxRecDepth 100000 in
set_option maxHeartbeats 16000000 in
theorem d_lawFacets (r c : Int) (xs : List Int) (ca : Nat) (hn : xs.length ≤ 9223372036854775807) :
    Does Tryz.prog 6 [vM r c 1 xs.length ca] [(1, .ro (.ints xs))] 2 (Ret (vB true) 2) := by
  refine Does.intro TT Tryz.func6 rfl (by kernel_rfl) rfl rfl fun E hE => ?_
  have e1 := d_szMatrix r c xs ca 1048576 (by omega) hn
  by_cases q1 : 0 ≤ szL 1048576 xs.length
  · have hl : xs.length ≤ 1099511627776 := by unfold szL at q1; split at q1 <;> omega
    have h1 := fun ca => d_facS r c xs ca hl
    have h2 := fun ca h => d_facI r c xs ca hl h
    rw [raysT_eq] at h1
    cases hR : raysB r c xs with
    | none =>
      rw [hR] at h1 h2
      ((repeat' (first | refine w_a TT rfl rfl rfl sd ?_ | refine w_b ?_ | refine w_c rfl rfl ?_ | refine w_d TT rfl rfl rfl rfl sd ?_ | refine w_e ?_ | refine w_f rfl rfl ?_ | refine w_g ?_ | refine w_h ?_ | (first | refine w_z (e1) rfl rfl rfl rfl rfl rfl rfl rfl ft rfl rfl ?_ | refine w_A (e1) rfl rfl rfl rfl rfl rfl rfl rfl ft rfl rfl ?_) | (refine w_C (d_toMatrix r c xs _ hl) rfl rfl rfl rfl rfl rfl rfl ft rfl rfl (MadeMx.out) ?_; rintro v b ⟨c1a, hc1a, rfl, he, -⟩; cases he) | ((refine w_E (h1 _) rfl rfl rfl rfl rfl rfl rfl ft rfl ?_); rintro v Hout n1 ⟨rfl, rfl, rfl⟩) | ((refine w_E (h2 _ hc1a) rfl rfl rfl rfl rfl rfl rfl ft rfl ?_); rintro v Hout n1 ⟨rfl, rfl, rfl⟩) | (first | refine w_z (d_eqMatrix 0 0 0 0 [] [] 0 0 (by decide) (by decide)) rfl rfl rfl rfl rfl rfl rfl rfl ft rfl rfl ?_ | refine w_A (d_eqMatrix 0 0 0 0 [] [] 0 0 (by decide) (by decide)) rfl rfl rfl rfl rfl rfl rfl rfl ft rfl rfl ?_) | ((refine w_E (d_markMatrix r c xs _ _ 1 hl (by omega) (by omega)) rfl rfl rfl rfl rfl rfl rfl ft rfl ?_); rintro v Hout n1 ⟨rfl, rfl, rfl⟩) | ((refine w_E (d_markMatrix 0 0 [] 0 0 1 (by decide) (by omega) (by omega)) rfl rfl rfl rfl rfl rfl rfl ft rfl ?_); rintro v Hout n1 ⟨rfl, rfl, rfl⟩) | (first | refine w_z (d_heldMatrix 0 0 0 0 1 (by decide) (by omega) (by omega)) rfl rfl rfl rfl rfl rfl rfl rfl ft rfl rfl ?_ | refine w_A (d_heldMatrix 0 0 0 0 1 (by decide) (by omega) (by omega)) rfl rfl rfl rfl rfl rfl rfl rfl ft rfl rfl ?_) | refine w_i ?_ | refine w_j ?_ | refine w_k ?_ | refine w_l ?_ | refine w_m rfl ?_ | refine w_n rfl ?_ | ((first | refine w_p rfl rfl rfl (fun hc => ?_) (fun hc => ?_) | refine w_q rfl rfl rfl (fun hc => ?_) (fun hc => ?_) | refine w_r rfl (fun hc => ?_) (fun hc => ?_)) <;> ((try simp at hc) <;> try contradiction)))) <;> try (exfalso; omega))
      refine awp_held TM [(2, _), (6, _)] sb rfl (fun ρs => ?_)
      refine w_t TT 0 rfl kr kr kr nh rfl rfl rfl rfl sd ?_
      refine w_t TT 1 rfl kr kr kr nh rfl rfl rfl rfl sd ?_
      refine w_u [2] kr rfl ⟨?_, trivial⟩
      first | (refine w_s TT 2 rfl rfl rfl rfl sd sb rfl ?_) | (refine w_D _ (d_toMatrix r c xs _ hl) rfl rfl rfl rfl rfl rfl rfl rfl ft rfl rfl (MadeMx.out) sb rfl rfl ?_; rintro v b ⟨c1b, hc1b, rfl, he, -⟩; cases he) | refine w_B _ (d_eqMatrix r c r c xs xs _ _ hl hl) rfl rfl rfl rfl rfl rfl rfl rfl rfl ft rfl rfl sb rfl ?_
      refine w_u [3] kr rfl ⟨?_, trivial⟩
      first | (refine w_s TT 3 rfl rfl rfl rfl sd sb rfl ?_) | (refine w_D _ (d_toMatrix r c xs _ hl) rfl rfl rfl rfl rfl rfl rfl rfl ft rfl rfl (MadeMx.out) sb rfl rfl ?_; rintro v b ⟨c1b, hc1b, rfl, he, -⟩; cases he) | refine w_B _ (d_eqMatrix r c r c xs xs _ _ hl hl) rfl rfl rfl rfl rfl rfl rfl rfl rfl ft rfl rfl sb rfl ?_
      refine w_t TT 4 rfl kr kr kr nh rfl rfl rfl rfl sd ?_
      refine w_v kr ?_
      rotate_left
      ((repeat' (first | refine w_a TT rfl rfl rfl sd ?_ | refine w_b ?_ | refine w_c rfl rfl ?_ | refine w_d TT rfl rfl rfl rfl sd ?_ | refine w_e ?_ | refine w_f rfl rfl ?_ | refine w_g ?_ | refine w_h ?_ | (refine w_C (d_toMatrix r c xs _ hl) rfl rfl rfl rfl rfl rfl rfl ft rfl rfl (MadeMx.out) ?_; rintro v b ⟨c1a, hc1a, rfl, he, -⟩; cases he) | ((refine w_E (h1 _) rfl rfl rfl rfl rfl rfl rfl ft rfl ?_); rintro v Hout n1 ⟨rfl, rfl, rfl⟩) | ((refine w_E (h2 _ hc1a) rfl rfl rfl rfl rfl rfl rfl ft rfl ?_); rintro v Hout n1 ⟨rfl, rfl, rfl⟩) | (first | refine w_z (d_eqMatrix 0 0 0 0 [] [] 0 0 (by decide) (by decide)) rfl rfl rfl rfl rfl rfl rfl rfl ft rfl rfl ?_ | refine w_A (d_eqMatrix 0 0 0 0 [] [] 0 0 (by decide) (by decide)) rfl rfl rfl rfl rfl rfl rfl rfl ft rfl rfl ?_) | ((refine w_E (d_markMatrix r c xs _ _ 1 hl (by omega) (by omega)) rfl rfl rfl rfl rfl rfl rfl ft rfl ?_); rintro v Hout n1 ⟨rfl, rfl, rfl⟩) | ((refine w_E (d_markMatrix 0 0 [] 0 0 1 (by decide) (by omega) (by omega)) rfl rfl rfl rfl rfl rfl rfl ft rfl ?_); rintro v Hout n1 ⟨rfl, rfl, rfl⟩) | (first | refine w_z (d_heldMatrix 0 0 0 0 1 (by decide) (by omega) (by omega)) rfl rfl rfl rfl rfl rfl rfl rfl ft rfl rfl ?_ | refine w_A (d_heldMatrix 0 0 0 0 1 (by decide) (by omega) (by omega)) rfl rfl rfl rfl rfl rfl rfl rfl ft rfl rfl ?_) | refine w_i ?_ | refine w_j ?_ | refine w_k ?_ | refine w_l ?_ | refine w_m rfl ?_ | refine w_n rfl ?_ | refine w_o TM rfl kr ?_ | ((first | refine w_p rfl rfl rfl (fun hc => ?_) (fun hc => ?_) | refine w_q rfl rfl rfl (fun hc => ?_) (fun hc => ?_) | refine w_r rfl (fun hc => ?_) (fun hc => ?_)) <;> ((try simp at hc) <;> try contradiction)))) <;> try (exfalso; omega))
      all_goals refine fin_ret rfl w_3 (rfl) rfl
    | some s =>
      rw [hR] at h1 h2
      have hyl := raysB_len hR
      have hyy : s.1.length ≤ 1099511627776 := by omega
      ((repeat' (first | refine w_a TT rfl rfl rfl sd ?_ | refine w_b ?_ | refine w_c rfl rfl ?_ | refine w_d TT rfl rfl rfl rfl sd ?_ | refine w_e ?_ | refine w_f rfl rfl ?_ | refine w_g ?_ | refine w_h ?_ | (first | refine w_z (e1) rfl rfl rfl rfl rfl rfl rfl rfl ft rfl rfl ?_ | refine w_A (e1) rfl rfl rfl rfl rfl rfl rfl rfl ft rfl rfl ?_) | (refine w_C (d_toMatrix r c xs _ hl) rfl rfl rfl rfl rfl rfl rfl ft rfl rfl (MadeMx.out) ?_; rintro v b ⟨c1a, hc1a, rfl, he, -⟩; cases he) | ((refine w_E (h1 _) rfl rfl rfl rfl rfl rfl rfl ft rfl ?_); rintro v Hout n1 ⟨cw, hcw, rfl, rfl, rfl⟩) | ((refine w_E (h2 _ hc1a) rfl rfl rfl rfl rfl rfl rfl ft rfl ?_); rintro v Hout n1 ⟨cw, hcw, rfl, rfl, rfl⟩) | (first | refine w_z (d_eqMatrix s.2 c s.2 c s.1 s.1 _ _ hyy hyy) rfl rfl rfl rfl rfl rfl rfl rfl ft rfl rfl ?_ | refine w_A (d_eqMatrix s.2 c s.2 c s.1 s.1 _ _ hyy hyy) rfl rfl rfl rfl rfl rfl rfl rfl ft rfl rfl ?_) | ((refine w_E (d_markMatrix r c xs _ _ 1 hl (by omega) (by omega)) rfl rfl rfl rfl rfl rfl rfl ft rfl ?_); rintro v Hout n1 ⟨rfl, rfl, rfl⟩) | ((refine w_E (d_markMatrix s.2 c s.1 _ _ 1 hyy (by omega) (by omega)) rfl rfl rfl rfl rfl rfl rfl ft rfl ?_); rintro v Hout n1 ⟨rfl, rfl, rfl⟩) | (first | refine w_z (d_heldMatrix s.2 c s.1.length _ 1 hyy (by omega) (by omega)) rfl rfl rfl rfl rfl rfl rfl rfl ft rfl rfl ?_ | refine w_A (d_heldMatrix s.2 c s.1.length _ 1 hyy (by omega) (by omega)) rfl rfl rfl rfl rfl rfl rfl rfl ft rfl rfl ?_) | refine w_i ?_ | refine w_j ?_ | refine w_k ?_ | refine w_l ?_ | refine w_m rfl ?_ | refine w_n rfl ?_ | ((first | refine w_p rfl rfl rfl (fun hc => ?_) (fun hc => ?_) | refine w_q rfl rfl rfl (fun hc => ?_) (fun hc => ?_) | refine w_r rfl (fun hc => ?_) (fun hc => ?_)) <;> ((try simp at hc) <;> try contradiction)))) <;> try (exfalso; omega))
      refine awp_held TM [(2, _), (7, _)] sb rfl (fun ρs => ?_)
      refine w_t TT 0 rfl kr kr kr nh rfl rfl rfl rfl sd ?_
      refine w_t TT 1 rfl kr kr kr nh rfl rfl rfl rfl sd ?_
      refine w_u [2] kr rfl ⟨?_, trivial⟩
      first | (refine w_s TT 2 rfl rfl rfl rfl sd sb rfl ?_) | (refine w_D _ (d_toMatrix r c xs _ hl) rfl rfl rfl rfl rfl rfl rfl rfl ft rfl rfl (MadeMx.out) sb rfl rfl ?_; rintro v b ⟨c1b, hc1b, rfl, he, -⟩; cases he) | refine w_B _ (d_eqMatrix r c r c xs xs _ _ hl hl) rfl rfl rfl rfl rfl rfl rfl rfl rfl ft rfl rfl sb rfl ?_
      refine w_u [3] kr rfl ⟨?_, trivial⟩
      first | (refine w_s TT 3 rfl rfl rfl rfl sd sb rfl ?_) | (refine w_D _ (d_toMatrix r c xs _ hl) rfl rfl rfl rfl rfl rfl rfl rfl ft rfl rfl (MadeMx.out) sb rfl rfl ?_; rintro v b ⟨c1b, hc1b, rfl, he, -⟩; cases he) | refine w_B _ (d_eqMatrix r c r c xs xs _ _ hl hl) rfl rfl rfl rfl rfl rfl rfl rfl rfl ft rfl rfl sb rfl ?_
      refine w_t TT 4 rfl kr kr kr nh rfl rfl rfl rfl sd ?_
      refine w_v kr ?_
      rotate_left
      ((repeat' (first | refine w_a TT rfl rfl rfl sd ?_ | refine w_b ?_ | refine w_c rfl rfl ?_ | refine w_d TT rfl rfl rfl rfl sd ?_ | refine w_e ?_ | refine w_f rfl rfl ?_ | refine w_g ?_ | refine w_h ?_ | (refine w_C (d_toMatrix r c xs _ hl) rfl rfl rfl rfl rfl rfl rfl ft rfl rfl (MadeMx.out) ?_; rintro v b ⟨c1a, hc1a, rfl, he, -⟩; cases he) | ((refine w_E (h1 _) rfl rfl rfl rfl rfl rfl rfl ft rfl ?_); rintro v Hout n1 ⟨cw, hcw, rfl, rfl, rfl⟩) | ((refine w_E (h2 _ hc1a) rfl rfl rfl rfl rfl rfl rfl ft rfl ?_); rintro v Hout n1 ⟨cw, hcw, rfl, rfl, rfl⟩) | (first | refine w_z (d_eqMatrix s.2 c s.2 c s.1 s.1 _ _ hyy hyy) rfl rfl rfl rfl rfl rfl rfl rfl ft rfl rfl ?_ | refine w_A (d_eqMatrix s.2 c s.2 c s.1 s.1 _ _ hyy hyy) rfl rfl rfl rfl rfl rfl rfl rfl ft rfl rfl ?_) | ((refine w_E (d_markMatrix r c xs _ _ 1 hl (by omega) (by omega)) rfl rfl rfl rfl rfl rfl rfl ft rfl ?_); rintro v Hout n1 ⟨rfl, rfl, rfl⟩) | ((refine w_E (d_markMatrix s.2 c s.1 _ _ 1 hyy (by omega) (by omega)) rfl rfl rfl rfl rfl rfl rfl ft rfl ?_); rintro v Hout n1 ⟨rfl, rfl, rfl⟩) | (first | refine w_z (d_heldMatrix s.2 c s.1.length _ 1 hyy (by omega) (by omega)) rfl rfl rfl rfl rfl rfl rfl rfl ft rfl rfl ?_ | refine w_A (d_heldMatrix s.2 c s.1.length _ 1 hyy (by omega) (by omega)) rfl rfl rfl rfl rfl rfl rfl rfl ft rfl rfl ?_) | refine w_i ?_ | refine w_j ?_ | refine w_k ?_ | refine w_l ?_ | refine w_m rfl ?_ | refine w_n rfl ?_ | refine w_o TM rfl kr ?_ | ((first | refine w_p rfl rfl rfl (fun hc => ?_) (fun hc => ?_) | refine w_q rfl rfl rfl (fun hc => ?_) (fun hc => ?_) | refine w_r rfl (fun hc => ?_) (fun hc => ?_)) <;> ((try simp at hc) <;> try contradiction)))) <;> try (exfalso; omega))
      all_goals refine fin_ret rfl w_3 (rfl) rfl
  · ((repeat' (first | refine w_a TT rfl rfl rfl sd ?_ | refine w_b ?_ | refine w_c rfl rfl ?_ | refine w_d TT rfl rfl rfl rfl sd ?_ | refine w_e ?_ | refine w_f rfl rfl ?_ | refine w_g ?_ | refine w_h ?_ | (first | refine w_z (e1) rfl rfl rfl rfl rfl rfl rfl rfl ft rfl rfl ?_ | refine w_A (e1) rfl rfl rfl rfl rfl rfl rfl rfl ft rfl rfl ?_) | refine w_i ?_ | refine w_j ?_ | refine w_k ?_ | refine w_l ?_ | refine w_m rfl ?_ | refine w_n rfl ?_ | ((first | refine w_p rfl rfl rfl (fun hc => ?_) (fun hc => ?_) | refine w_q rfl rfl rfl (fun hc => ?_) (fun hc => ?_) | refine w_r rfl (fun hc => ?_) (fun hc => ?_)) <;> ((try simp at hc) <;> try contradiction)))) <;> try (exfalso; omega))
    all_goals refine fin_ret rfl w_3 (rfl) rfl
end Go.Proofs.YtfkbjkmlpinoeaaGreat
