/-
  TEXTS OF THE PROOF, put together: bEch, bDet.
-/
import Derived.Test.YtfkbjkmlpinoeaaGreatM11
import Derived.Test.YtfkbjkmlpinoeaaGreatM09
import Derived.Test.YtfkbjkmlpinoeaaGreatM14
set_option linter.unusedVariables false
set_option linter.unusedSimpArgs false
/-
  CONTRACTS: EchelonOf of the program (in work).
-/
namespace Go.Proofs.YtfkbjkmlpinoeaaGreat
open Go.RowKit

def EchO (r c : Int) (t : TypeId) (o : Option Nat) (v : AV) (Hout : List (Nat × Blk)) (n1 : Nat) : Prop := match o with
  | none => v = .tup [.agg zeroM, .one (.sl 2 1 0 0 0), .one (.bool false)] ∧ Hout = [(2, .own t 0 (.ints []))] ∧ n1 = 3
  | some rk => ∃ ys pv : List Int, ∃ cy cp : Nat, pv.length = rk ∧ v = .tup [.agg [.int r, .int c, .sl 2 1 0 ys.length cy], .one (.sl 3 1 0 pv.length cp), .one (.bool true)] ∧ Hout = [(2, .own t cy (.ints ys)), (3, .own t cp (.ints pv))] ∧ n1 = 4
theorem isM_dims {r c : Int} {xs : List Int} (h : isM r c xs = true) : ∃ a b : Nat, r = a ∧ c = b ∧ a ≤ 24 ∧ b ≤ 24 ∧ xs.length = a * b ∧ xs.all numB = true := by
  simp only [isM, Bool.and_eq_true, decide_eq_true_eq] at h
  obtain ⟨⟨h1, h2, h3, h4, h5⟩, h6⟩ := h
  obtain ⟨a, rfl⟩ := Int.eq_ofNat_of_zero_le h1
  obtain ⟨b, rfl⟩ := Int.eq_ofNat_of_zero_le h3
  exact ⟨a, b, rfl, rfl, by omega, by omega, by exact_mod_cast h5, h6⟩
def rankB (r c : Int) (xs : List Int) : Option Nat := if isM r c xs then rankO xs r.toNat c.toNat else none
theorem sl_eqE {k sz off a b cap : Nat} {m : Nat → Nat} (h : a = b) : some (AV.one (.sl (m k) sz off a cap)) = some ((AV.one (.sl k sz off b cap)).ren m) := by subst h; rfl
def swX (ys : List Int) (p t b : Nat) : List Int := if p = t then ys else swapTo ys (p * b) (t * b) b
set_option maxHeartbeats 4000000 in
theorem d_echI (r c : Int) (xs : List Int) (ca : Nat) (hl : xs.length ≤ 1099511627776) : Does Tryz.prog 68 [vM r c 1 xs.length ca] [(1, .ro (.ints xs))] 2 (EchO r c 3 (rankB r c xs)) := by
  refine Does.intro TT Tryz.func68 rfl (by kernel_rfl) rfl rfl fun E hE => ?_
  cases hm : isM r c xs
  · have hR : rankB r c xs = none := by simp [rankB, hm]
    rw [hR]
    ((repeat' (first | refine w_a TT rfl rfl rfl sd ?_ | refine w_b ?_ | refine w_c rfl rfl ?_ | refine w_d TT rfl rfl rfl rfl sd ?_ | refine w_e ?_ | refine w_f rfl rfl ?_ | refine w_g ?_ | refine w_h ?_ | ((first | refine w_z (d_isMatI _ _ _ _ hl) rfl rfl rfl rfl rfl rfl rfl rfl ft rfl rfl ?_ | refine w_A (d_isMatI _ _ _ _ hl) rfl rfl rfl rfl rfl rfl rfl rfl ft rfl rfl ?_) <;> simp only [hm]) | refine w_i ?_ | refine w_j ?_ | refine w_k ?_ | refine w_l ?_ | refine w_m rfl ?_ | refine w_n rfl ?_ | refine w_o TM rfl kr ?_ | ((first | refine w_p rfl rfl rfl (fun hc => ?_) (fun hc => ?_) | refine w_q rfl rfl rfl (fun hc => ?_) (fun hc => ?_) | refine w_r rfl (fun hc => ?_) (fun hc => ?_)) <;> ((try simp at hc) <;> try contradiction)))) <;> try (exfalso; omega))
    exact fin rfl w_3 [(2, 4)] (.tup [.agg zeroM, .one (.sl 2 1 0 0 0), .one (.bool false)]) [(2, .own 3 0 (.ints []))] 3 ⟨rfl, rfl, rfl⟩ rfl ⟨trivial, ⟨rfl, trivial⟩, rfl⟩ rfl
  · obtain ⟨a, b, rfl, rfl, ha, hb, hx, hnum⟩ := isM_dims hm
    have hR : rankB a b xs = rankO xs a b := by simp [rankB, hm]
    rw [hR]
    ((repeat' (first | refine w_a TT rfl rfl rfl sd ?_ | refine w_b ?_ | refine w_c rfl rfl ?_ | refine w_d TT rfl rfl rfl rfl sd ?_ | refine w_e ?_ | refine w_f rfl rfl ?_ | refine w_g ?_ | refine w_h ?_ | ((first | refine w_z (d_isMatI _ _ _ _ hl) rfl rfl rfl rfl rfl rfl rfl rfl ft rfl rfl ?_ | refine w_A (d_isMatI _ _ _ _ hl) rfl rfl rfl rfl rfl rfl rfl rfl ft rfl rfl ?_) <;> simp only [hm]) | (refine w_C (d_copyI _ _ xs _ hl) rfl rfl rfl rfl rfl rfl rfl ft rfl rfl (CopyM.out) ?_; rintro v b ⟨c1, hc1, rfl, he, -⟩; cases he) | refine w_i ?_ | refine w_j ?_ | refine w_k ?_ | refine w_l ?_ | refine w_m rfl ?_ | refine w_n rfl ?_ | refine w_o TM rfl kr ?_ | ((first | refine w_p rfl rfl rfl (fun hc => ?_) (fun hc => ?_) | refine w_q rfl rfl rfl (fun hc => ?_) (fun hc => ?_) | refine w_r rfl (fun hc => ?_) (fun hc => ?_)) <;> ((try simp at hc) <;> try contradiction)))) <;> try (exfalso; omega))
    refine w_G hE (fun i : Nat => i ≤ a) (fun i => a - i)
      (fun i => [(2, .one (.ptr 3 3 0 0)), (5, .one (.ptr 5 3 0 0)), (6, vS 6 1 0 0 0), (7, vI i)]) (fun i => [(3, .own 26 1 (.lit zeroM)), (4, .own 3 c1 (.ints (primAll xs b i))), (5, .own 26 1 (.lit [.int a, .int b, .sl 4 1 0 xs.length c1])), (6, .own 3 0 (.ints []))]) 7 [] 0 (Nat.zero_le _) ⟨w_1, w_2, rfl⟩ ?_
    intro i hi
    obtain ⟨p1, p2⟩ := primAll_ok (c := b) hnum i
    by_cases hia : i < a
    · have hin := row_in (c := b) hia
      ((repeat' (first | refine w_a TT rfl rfl rfl sd ?_ | refine w_b ?_ | refine w_c rfl rfl ?_ | refine w_d TT rfl rfl rfl rfl sd ?_ | refine w_e ?_ | refine w_f rfl rfl ?_ | refine w_g ?_ | refine w_h ?_ | ((refine w_E (d_rowAt a b i xs.length c1 (primAll xs b i) p2.symm (by omega) (by omega) ha hb hia) rfl rfl rfl rfl rfl rfl rfl ft rfl ?_); rintro v Hout n1 ⟨cp1, rfl, rfl, rfl⟩) | ((refine w_E (d_primI (primAll xs b i) (i * b) b _ c1 (by omega) (by omega) p1) rfl rfl rfl rfl rfl rfl rfl ft rfl ?_); rintro v Hout n1 ⟨rfl, rfl, rfl⟩) | refine w_i ?_ | refine w_j ?_ | refine w_k ?_ | refine w_l ?_ | refine w_m rfl ?_ | refine w_n rfl ?_ | refine w_o TM rfl kr ?_ | ((first | refine w_p rfl rfl rfl (fun hc => ?_) (fun hc => ?_) | refine w_q rfl rfl rfl (fun hc => ?_) (fun hc => ?_) | refine w_r rfl (fun hc => ?_) (fun hc => ?_)) <;> ((try simp at hc) <;> try contradiction)))) <;> try (exfalso; omega))
      refine ⟨[], i + 1, hia, w_4, ⟨w_1, ⟨rfl, rfl, rfl, rfl, trivial⟩, rfl⟩⟩
    · obtain rfl : i = a := by omega
      ((repeat' (first | refine w_a TT rfl rfl rfl sd ?_ | refine w_b ?_ | refine w_c rfl rfl ?_ | refine w_d TT rfl rfl rfl rfl sd ?_ | refine w_e ?_ | refine w_f rfl rfl ?_ | refine w_g ?_ | refine w_h ?_ | refine w_i ?_ | refine w_j ?_ | refine w_k ?_ | refine w_l ?_ | refine w_m rfl ?_ | refine w_n rfl ?_ | refine w_o TM rfl kr ?_ | ((first | refine w_p rfl rfl rfl (fun hc => ?_) (fun hc => ?_) | refine w_q rfl rfl rfl (fun hc => ?_) (fun hc => ?_) | refine w_r rfl (fun hc => ?_) (fun hc => ?_)) <;> ((try simp at hc) <;> try contradiction)))) <;> try (exfalso; omega))
      refine w_G hE (fun p : Nat × (List Int × Nat) × List Int × Nat => p.1 ≤ b ∧ echTo xs i b p.1 = some p.2.1 ∧ p.2.2.1.length = p.2.1.2 ∧ p.2.2.1.length ≤ p.2.2.2) (fun p => b - p.1)
        (fun p => [(2, .one (.ptr 3 3 0 0)), (5, .one (.ptr 5 3 0 0)), (6, vS 6 1 0 p.2.2.1.length p.2.2.2), (8, vI p.1)]) (fun p => [(3, .own 26 1 (.lit zeroM)), (4, .own 3 c1 (.ints p.2.1.1)), (5, .own 26 1 (.lit [.int i, .int b, .sl 4 1 0 xs.length c1])), (6, .own 3 p.2.2.2 (.ints p.2.2.1))]) 7 [] (0, (primAll xs b i, 0), [], 0) ⟨Nat.zero_le _, rfl, rfl, Nat.le_refl _⟩ ⟨w_1, w_2, rfl⟩ ?_
      rintro ⟨j, ⟨ys, t⟩, pv, pc⟩ ⟨hj, he, hpv, hpc⟩
      dsimp only at hj he hpv hpc ⊢
      obtain ⟨y1, y2, y3, y4⟩ := echTo_ok hnum he
      dsimp only at y1 y2 y3 y4
      subst hpv
      by_cases hjb : j < b
      · ((repeat' (first | refine w_a TT rfl rfl rfl sd ?_ | refine w_b ?_ | refine w_c rfl rfl ?_ | refine w_d TT rfl rfl rfl rfl sd ?_ | refine w_e ?_ | refine w_f rfl rfl ?_ | refine w_g ?_ | refine w_h ?_ | refine w_i ?_ | refine w_j ?_ | refine w_k ?_ | refine w_l ?_ | refine w_m rfl ?_ | refine w_n rfl ?_ | refine w_o TM rfl kr ?_ | ((first | refine w_p rfl rfl rfl (fun hc => ?_) (fun hc => ?_) | refine w_q rfl rfl rfl (fun hc => ?_) (fun hc => ?_) | refine w_r rfl (fun hc => ?_) (fun hc => ?_)) <;> ((try simp at hc) <;> try contradiction)))) <;> try (exfalso; omega))
        refine w_G hE (fun p : Nat => pv.length ≤ p ∧ p ≤ i ∧ findP ys b j i p = findP ys b j i pv.length) (fun p => i - p)
          (fun p => [(2, .one (.ptr 3 3 0 0)), (5, .one (.ptr 5 3 0 0)), (6, vS 6 1 0 pv.length pc), (8, vI j), (9, vI pv.length), (10, vI p)]) (fun _ => [(3, .own 26 1 (.lit zeroM)), (4, .own 3 c1 (.ints ys)), (5, .own 26 1 (.lit [.int i, .int b, .sl 4 1 0 xs.length c1])), (6, .own 3 pc (.ints pv))]) 7 [] pv.length ⟨Nat.le_refl _, y4, rfl⟩ ⟨w_1, w_2, rfl⟩ ?_
        rintro p ⟨q1, q2, q3⟩
        by_cases hpi : p < i
        · have hcell := cell_facts hpi hjb ha hb
          have ecell := cell_nat (p := p) (k := j) (c := b)
          have hd := d_at i b p j ys c1 (by omega) (by omega) (by omega) (by omega)
          rw [y2] at hd
          have hraw : ys[((p : Int) * b + j).toNat]?.getD 0 = ys.getD (p * b + j) 0 := by rw [← ecell, Nat.zero_add, List.getD_eq_getElem?_getD]
          have hf : findP ys b j i p = if ys.getD (p * b + j) 0 = 0 then findP ys b j i (p + 1) else p := by rw [findP, if_pos hpi]
          ((repeat' (first | refine w_a TT rfl rfl rfl sd ?_ | refine w_b ?_ | refine w_c rfl rfl ?_ | refine w_d TT rfl rfl rfl rfl sd ?_ | refine w_e ?_ | refine w_f rfl rfl ?_ | refine w_g ?_ | refine w_h ?_ | (first | refine w_z (hd) rfl rfl rfl rfl rfl rfl rfl rfl ft rfl rfl ?_ | refine w_A (hd) rfl rfl rfl rfl rfl rfl rfl rfl ft rfl rfl ?_) | ((refine w_E (d_swapI i b p pv.length xs.length c1 c1 ys y2.symm (by omega) (by omega) ha hb hpi (by omega) (by omega)) rfl rfl rfl rfl rfl rfl rfl ft rfl ?_); rintro v Hout n1 ⟨rfl, rfl, rfl⟩) | refine w_i ?_ | refine w_j ?_ | refine w_k ?_ | refine w_l ?_ | refine w_m rfl ?_ | refine w_n rfl ?_ | refine w_o TM rfl kr ?_ | ((first | refine w_p rfl rfl rfl (fun hc => ?_) (fun hc => ?_) | refine w_q rfl rfl rfl (fun hc => ?_) (fun hc => ?_) | refine w_r rfl (fun hc => ?_) (fun hc => ?_)) <;> ((try simp at hc) <;> try contradiction)))) <;> try (exfalso; omega))
          · refine ⟨[], p + 1, ⟨by omega, by omega, ?_⟩, w_4, ⟨w_1, w_2, rfl⟩⟩
            rw [← q3, hf, if_pos (by rw [← hraw]; exact hc)]
          all_goals
            have hne0 : ys.getD (p * b + j) 0 ≠ 0 := by rw [← hraw]; assumption
            have hfp : findP ys b j i pv.length = p := by rw [← q3, hf, if_neg hne0]
            have hX1 : (swX ys p pv.length b).all numB = true ∧ (swX ys p pv.length b).length = xs.length := by
              unfold swX
              split
              · exact ⟨y1, y2⟩
              · exact ⟨swapTo_num y1, by rw [swapTo_len, y2]⟩
            refine w_G hE (fun q : Nat × List Int => q.1 ≤ i ∧ elimTo (swX ys p pv.length b) b pv.length j q.1 = some q.2) (fun q => i - q.1)
              (fun q => [(2, .one (.ptr 3 3 0 0)), (5, .one (.ptr 5 3 0 0)), (6, vS 6 1 0 pv.length pc), (8, vI j), (9, vI pv.length), (11, vI q.1)]) (fun q => [(3, .own 26 1 (.lit zeroM)), (4, .own 3 c1 (.ints q.2)), (5, .own 26 1 (.lit [.int i, .int b, .sl 4 1 0 xs.length c1])), (6, .own 3 pc (.ints pv))]) 7 [] (0, swX ys p pv.length b) ⟨Nat.zero_le _, rfl⟩ ⟨w_1, ⟨rfl, own_ints (by dsimp only; unfold swX; first | exact (if_pos (by omega)).symm | exact (if_neg (by omega)).symm), rfl, rfl, trivial⟩, rfl⟩ ?_
            rintro ⟨k, zs⟩ ⟨r1, r2⟩
            dsimp only at r1 r2 ⊢
            obtain ⟨z1, z2⟩ := elimTo_ok hX1.1 r2
            rw [hX1.2] at z2
            have ht : pv.length < i := by omega
            by_cases hki : k < i
            · have cellk := cell_facts hki hjb ha hb
              have cellt := cell_facts ht hjb ha hb
              have ek := cell_nat (p := k) (k := j) (c := b)
              have et := cell_nat (p := pv.length) (k := j) (c := b)
              have hd1 := d_at i b k j zs c1 (by omega) (by omega) (by omega) (by omega)
              have hd2 := d_at i b pv.length j zs c1 (by omega) (by omega) (by omega) (by omega)
              rw [z2] at hd1 hd2
              have rawk : zs[((k : Int) * b + j).toNat]?.getD 0 = zs.getD (k * b + j) 0 := by rw [← ek, Nat.zero_add, List.getD_eq_getElem?_getD]
              by_cases hskip : k = pv.length ∨ zs.getD (k * b + j) 0 = 0
              · ((repeat' (first | refine w_a TT rfl rfl rfl sd ?_ | refine w_b ?_ | refine w_c rfl rfl ?_ | refine w_d TT rfl rfl rfl rfl sd ?_ | refine w_e ?_ | refine w_f rfl rfl ?_ | refine w_g ?_ | refine w_h ?_ | (first | refine w_z (hd1) rfl rfl rfl rfl rfl rfl rfl rfl ft rfl rfl ?_ | refine w_A (hd1) rfl rfl rfl rfl rfl rfl rfl rfl ft rfl rfl ?_) | refine w_i ?_ | refine w_j ?_ | refine w_k ?_ | refine w_l ?_ | refine w_m rfl ?_ | refine w_n rfl ?_ | refine w_o TM rfl kr ?_ | ((first | refine w_p rfl rfl rfl (fun hc => ?_) (fun hc => ?_) | refine w_q rfl rfl rfl (fun hc => ?_) (fun hc => ?_) | refine w_r rfl (fun hc => ?_) (fun hc => ?_)) <;> ((try simp at hc) <;> try contradiction)))) <;> try (exfalso; omega))
                all_goals exact ⟨[], (k + 1, zs), ⟨by omega, elim_skip r2 hskip⟩, w_4, ⟨w_1, w_2, rfl⟩⟩
              · have hk1 : k ≠ pv.length := fun h => hskip (.inl h)
                have hk2 : zs.getD (k * b + j) 0 ≠ 0 := fun h => hskip (.inr h)
                have nx := num_getD z1 (0 + ((k : Int) * b + j).toNat)
                have ny := num_getD z1 (0 + ((pv.length : Int) * b + j).toNat)
                have hG : (Int.gcd (zs.getD (0 + ((k : Int) * b + j).toNat) 0) (zs.getD (0 + ((pv.length : Int) * b + j).toNat) 0) : Int) ≠ 0 := by
                  intro h
                  have h' : Int.gcd (zs.getD (0 + ((k : Int) * b + j).toNat) 0) (zs.getD (0 + ((pv.length : Int) * b + j).toNat) 0) = 0 := by exact_mod_cast h
                  rw [Int.gcd_eq_zero_iff] at h'
                  exact hk2 (by rw [← ek]; exact h'.1)
                have g1 := tdiv_bd (zs.getD (0 + ((pv.length : Int) * b + j).toNat) 0) (Int.gcd (zs.getD (0 + ((k : Int) * b + j).toNat) 0) (zs.getD (0 + ((pv.length : Int) * b + j).toNat) 0) : Int)
                have g2 := tdiv_bd (zs.getD (0 + ((k : Int) * b + j).toNat) 0) (Int.gcd (zs.getD (0 + ((k : Int) * b + j).toNat) 0) (zs.getD (0 + ((pv.length : Int) * b + j).toNat) 0) : Int)
                have hap := row_apart (c := b) hk1
                ((repeat' (first | refine w_a TT rfl rfl rfl sd ?_ | refine w_b ?_ | refine w_c rfl rfl ?_ | refine w_d TT rfl rfl rfl rfl sd ?_ | refine w_e ?_ | refine w_f rfl rfl ?_ | refine w_g ?_ | refine w_h ?_ | (first | refine w_z (hd1) rfl rfl rfl rfl rfl rfl rfl rfl ft rfl rfl ?_ | refine w_A (hd1) rfl rfl rfl rfl rfl rfl rfl rfl ft rfl rfl ?_) | (first | refine w_z (hd2) rfl rfl rfl rfl rfl rfl rfl rfl ft rfl rfl ?_ | refine w_A (hd2) rfl rfl rfl rfl rfl rfl rfl rfl ft rfl rfl ?_) | (first | refine w_z (d_gcd _ _ (by omega) (by omega)) rfl rfl rfl rfl rfl rfl rfl rfl ft rfl rfl ?_ | refine w_A (d_gcd _ _ (by omega) (by omega)) rfl rfl rfl rfl rfl rfl rfl rfl ft rfl rfl ?_) | refine w_i ?_ | refine w_j ?_ | refine w_k ?_ | refine w_l ?_ | refine w_m rfl ?_ | refine w_n rfl ?_ | refine w_o TM rfl kr ?_ | ((first | refine w_p rfl rfl rfl (fun hc => ?_) (fun hc => ?_) | refine w_q rfl rfl rfl (fun hc => ?_) (fun hc => ?_) | refine w_r rfl (fun hc => ?_) (fun hc => ?_)) <;> ((try simp at hc) <;> try contradiction)))) <;> try (exfalso; omega))
                all_goals
                  refine w_G hE (fun m : Nat => m ≤ b ∧ elimOK zs b k pv.length j m = true) (fun m => b - m)
                    (fun m => [(2, .one (.ptr 3 3 0 0)), (5, .one (.ptr 5 3 0 0)), (6, vS 6 1 0 pv.length pc), (8, vI j), (9, vI pv.length), (11, vI k), (12, vI (zs.getD (0 + ((k : Int) * b + j).toNat) 0)), (13, vI (zs.getD (0 + ((pv.length : Int) * b + j).toNat) 0)), (14, vI (Int.gcd (zs.getD (0 + ((k : Int) * b + j).toNat) 0) (zs.getD (0 + ((pv.length : Int) * b + j).toNat) 0) : Int)), (15, vI m)]) (fun m => [(3, .own 26 1 (.lit zeroM)), (4, .own 3 c1 (.ints (updTo zs (k * b) (elimF zs b k pv.length j) m))), (5, .own 26 1 (.lit [.int i, .int b, .sl 4 1 0 xs.length c1])), (6, .own 3 pc (.ints pv))]) 7 [] 0 ⟨Nat.zero_le _, rfl⟩ ⟨w_1, w_2, rfl⟩ ?_
                  rintro m ⟨hm1, hm2⟩
                  have hU : (updTo zs (k * b) (elimF zs b k pv.length j) m).length = xs.length := updTo_len.trans z2
                  by_cases hmb : m < b
                  · have cm := cell_facts hki hmb ha hb
                    have ct := cell_facts ht hmb ha hb
                    have em := cell_nat (p := k) (k := m) (c := b)
                    have etm := cell_nat (p := pv.length) (k := m) (c := b)
                    have hd3 := d_at i b k m (updTo zs (k * b) (elimF zs b k pv.length j) m) c1 (by omega) (by omega) (by omega) (by omega)
                    have hd4 := d_at i b pv.length m (updTo zs (k * b) (elimF zs b k pv.length j) m) c1 (by omega) (by omega) (by omega) (by omega)
                    rw [hU] at hd3 hd4
                    have am := updTo_at (xs := zs) (off := k * b) (f := elimF zs b k pv.length j) (p := k * b + m) (k := m) (by omega)
                    have atm := updTo_at (xs := zs) (off := k * b) (f := elimF zs b k pv.length j) (p := pv.length * b + m) (k := m) (by omega)
                    have nv := num_getD z1 (k * b + m)
                    have nw := num_getD z1 (pv.length * b + m)
                    rw [← am, ← em] at nv
                    rw [← atm, ← etm] at nw
                    have m1 := mul_bd (A := 400000000) (B := 400000000) (a := (zs.getD (0 + ((pv.length : Int) * b + j).toNat) 0).tdiv (Int.gcd (zs.getD (0 + ((k : Int) * b + j).toNat) 0) (zs.getD (0 + ((pv.length : Int) * b + j).toNat) 0) : Int)) (by omega) (by omega) nv.1 nv.2
                    have m2 := mul_bd (A := 400000000) (B := 400000000) (a := (zs.getD (0 + ((k : Int) * b + j).toNat) 0).tdiv (Int.gcd (zs.getD (0 + ((k : Int) * b + j).toNat) 0) (zs.getD (0 + ((pv.length : Int) * b + j).toNat) 0) : Int)) (by omega) (by omega) nw.1 nw.2
                    have hval : (zs.getD (0 + ((pv.length : Int) * b + j).toNat) 0).tdiv (Int.gcd (zs.getD (0 + ((k : Int) * b + j).toNat) 0) (zs.getD (0 + ((pv.length : Int) * b + j).toNat) 0) : Int) * (updTo zs (k * b) (elimF zs b k pv.length j) m).getD (0 + ((k : Int) * b + m).toNat) 0 - (zs.getD (0 + ((k : Int) * b + j).toNat) 0).tdiv (Int.gcd (zs.getD (0 + ((k : Int) * b + j).toNat) 0) (zs.getD (0 + ((pv.length : Int) * b + j).toNat) 0) : Int) * (updTo zs (k * b) (elimF zs b k pv.length j) m).getD (0 + ((pv.length : Int) * b + m).toNat) 0 = elimF zs b k pv.length j m (zs.getD (k * b + m) 0) := by rw [ek, et, em, etm, am, atm]; rfl
                    cases hnb : numB (elimF zs b k pv.length j m (zs.getD (k * b + m) 0))
                    · have hnb' : numB ((zs.getD (0 + ((pv.length : Int) * b + j).toNat) 0).tdiv (Int.gcd (zs.getD (0 + ((k : Int) * b + j).toNat) 0) (zs.getD (0 + ((pv.length : Int) * b + j).toNat) 0) : Int) * (updTo zs (k * b) (elimF zs b k pv.length j) m).getD (0 + ((k : Int) * b + m).toNat) 0 - (zs.getD (0 + ((k : Int) * b + j).toNat) 0).tdiv (Int.gcd (zs.getD (0 + ((k : Int) * b + j).toNat) 0) (zs.getD (0 + ((pv.length : Int) * b + j).toNat) 0) : Int) * (updTo zs (k * b) (elimF zs b k pv.length j) m).getD (0 + ((pv.length : Int) * b + m).toNat) 0) = false := by rw [hval]; exact hnb
                      have hbad : rankO xs i b = none := rank_bad hjb he hfp hpi r2 hki hk1 hk2 hmb hnb
                      rw [hbad]
                      ((repeat' (first | refine w_a TT rfl rfl rfl sd ?_ | refine w_b ?_ | refine w_c rfl rfl ?_ | refine w_d TT rfl rfl rfl rfl sd ?_ | refine w_e ?_ | refine w_f rfl rfl ?_ | refine w_g ?_ | refine w_h ?_ | (first | refine w_z (hd3) rfl rfl rfl rfl rfl rfl rfl rfl ft rfl rfl ?_ | refine w_A (hd3) rfl rfl rfl rfl rfl rfl rfl rfl ft rfl rfl ?_) | (first | refine w_z (hd4) rfl rfl rfl rfl rfl rfl rfl rfl ft rfl rfl ?_ | refine w_A (hd4) rfl rfl rfl rfl rfl rfl rfl rfl ft rfl rfl ?_) | ((first | refine w_z (d_numI _) rfl rfl rfl rfl rfl rfl rfl rfl ft rfl rfl ?_ | refine w_A (d_numI _) rfl rfl rfl rfl rfl rfl rfl rfl ft rfl rfl ?_) <;> simp only [hnb']) | refine w_i ?_ | refine w_j ?_ | refine w_k ?_ | refine w_l ?_ | refine w_m rfl ?_ | refine w_n rfl ?_ | refine w_o TM rfl kr ?_ | ((first | refine w_p rfl rfl rfl (fun hc => ?_) (fun hc => ?_) | refine w_q rfl rfl rfl (fun hc => ?_) (fun hc => ?_) | refine w_r rfl (fun hc => ?_) (fun hc => ?_)) <;> ((try simp at hc) <;> try contradiction)))) <;> try (exfalso; omega))
                      exact fin rfl w_3 [(2, 7)] (.tup [.agg zeroM, .one (.sl 2 1 0 0 0), .one (.bool false)]) [(2, .own 3 0 (.ints []))] 3 ⟨rfl, rfl, rfl⟩ rfl ⟨trivial, ⟨rfl, trivial⟩, rfl⟩ rfl
                    · have hnb' : numB ((zs.getD (0 + ((pv.length : Int) * b + j).toNat) 0).tdiv (Int.gcd (zs.getD (0 + ((k : Int) * b + j).toNat) 0) (zs.getD (0 + ((pv.length : Int) * b + j).toNat) 0) : Int) * (updTo zs (k * b) (elimF zs b k pv.length j) m).getD (0 + ((k : Int) * b + m).toNat) 0 - (zs.getD (0 + ((k : Int) * b + j).toNat) 0).tdiv (Int.gcd (zs.getD (0 + ((k : Int) * b + j).toNat) 0) (zs.getD (0 + ((pv.length : Int) * b + j).toNat) 0) : Int) * (updTo zs (k * b) (elimF zs b k pv.length j) m).getD (0 + ((pv.length : Int) * b + m).toNat) 0) = true := by rw [hval]; exact hnb
                      ((repeat' (first | refine w_a TT rfl rfl rfl sd ?_ | refine w_b ?_ | refine w_c rfl rfl ?_ | refine w_d TT rfl rfl rfl rfl sd ?_ | refine w_e ?_ | refine w_f rfl rfl ?_ | refine w_g ?_ | refine w_h ?_ | (first | refine w_z (hd3) rfl rfl rfl rfl rfl rfl rfl rfl ft rfl rfl ?_ | refine w_A (hd3) rfl rfl rfl rfl rfl rfl rfl rfl ft rfl rfl ?_) | (first | refine w_z (hd4) rfl rfl rfl rfl rfl rfl rfl rfl ft rfl rfl ?_ | refine w_A (hd4) rfl rfl rfl rfl rfl rfl rfl rfl ft rfl rfl ?_) | ((first | refine w_z (d_numI _) rfl rfl rfl rfl rfl rfl rfl rfl ft rfl rfl ?_ | refine w_A (d_numI _) rfl rfl rfl rfl rfl rfl rfl rfl ft rfl rfl ?_) <;> simp only [hnb']) | ((refine w_E (d_set i b k m _ (updTo zs (k * b) (elimF zs b k pv.length j) m) xs.length c1 c1 (by omega) (by omega) (by omega) (by omega) (by omega)) rfl rfl rfl rfl rfl rfl rfl ft rfl ?_); rintro v Hout n1 ⟨rfl, rfl, rfl⟩) | refine w_i ?_ | refine w_j ?_ | refine w_k ?_ | refine w_l ?_ | refine w_m rfl ?_ | refine w_n rfl ?_ | refine w_o TM rfl kr ?_ | ((first | refine w_p rfl rfl rfl (fun hc => ?_) (fun hc => ?_) | refine w_q rfl rfl rfl (fun hc => ?_) (fun hc => ?_) | refine w_r rfl (fun hc => ?_) (fun hc => ?_)) <;> ((try simp at hc) <;> try contradiction)))) <;> try (exfalso; omega))
                      refine ⟨[], m + 1, ⟨by omega, by rw [elimOK, hm2, hnb]; rfl⟩, w_4, ⟨w_1, ⟨rfl, own_ints ?_, rfl, rfl, trivial⟩, rfl⟩⟩
                      rw [hval, em]; rfl
                  · obtain rfl : m = b := by omega
                    have hUn := updTo_num (off := k * m) (f := elimF zs m k pv.length j) z1 (elimOK_at hm2)
                    have hkin := row_in (c := m) hki
                    ((repeat' (first | refine w_a TT rfl rfl rfl sd ?_ | refine w_b ?_ | refine w_c rfl rfl ?_ | refine w_d TT rfl rfl rfl rfl sd ?_ | refine w_e ?_ | refine w_f rfl rfl ?_ | refine w_g ?_ | refine w_h ?_ | ((refine w_E (d_rowAt i m k xs.length c1 (updTo zs (k * m) (elimF zs m k pv.length j) m) hU.symm (by omega) (by omega) ha hb hki) rfl rfl rfl rfl rfl rfl rfl ft rfl ?_); rintro v Hout n1 ⟨cp1, rfl, rfl, rfl⟩) | ((refine w_E (d_primI (updTo zs (k * m) (elimF zs m k pv.length j) m) (k * m) m _ c1 (by omega) (by omega) hUn) rfl rfl rfl rfl rfl rfl rfl ft rfl ?_); rintro v Hout n1 ⟨rfl, rfl, rfl⟩) | refine w_i ?_ | refine w_j ?_ | refine w_k ?_ | refine w_l ?_ | refine w_m rfl ?_ | refine w_n rfl ?_ | refine w_o TM rfl kr ?_ | ((first | refine w_p rfl rfl rfl (fun hc => ?_) (fun hc => ?_) | refine w_q rfl rfl rfl (fun hc => ?_) (fun hc => ?_) | refine w_r rfl (fun hc => ?_) (fun hc => ?_)) <;> ((try simp at hc) <;> try contradiction)))) <;> try (exfalso; omega))
                    exact ⟨[], (k + 1, primAt (updTo zs (k * m) (elimF zs m k pv.length j) m) (k * m) m), ⟨by omega, elim_do r2 hk1 hk2 hm2⟩, w_4, ⟨w_1, w_2, rfl⟩⟩
            · obtain rfl : k = i := by omega
              ((repeat' (first | refine w_a TT rfl rfl rfl sd ?_ | refine w_b ?_ | refine w_c rfl rfl ?_ | refine w_d TT rfl rfl rfl rfl sd ?_ | refine w_e ?_ | refine w_f rfl rfl ?_ | refine w_g ?_ | refine w_h ?_ | (refine w_x TT rfl rfl rfl rfl rfl sd ?_; intro cap hcap) | refine w_i ?_ | refine w_j ?_ | refine w_k ?_ | refine w_l ?_ | refine w_m rfl ?_ | refine w_n rfl ?_ | refine w_o TM rfl kr ?_ | ((first | refine w_p rfl rfl rfl (fun hc => ?_) (fun hc => ?_) | refine w_q rfl rfl rfl (fun hc => ?_) (fun hc => ?_) | refine w_r rfl (fun hc => ?_) (fun hc => ?_)) <;> ((try simp at hc) <;> try contradiction)))) <;> try (exfalso; omega))
              refine ⟨[(6, 8)], (j + 1, (zs, pv.length + 1), pv ++ [(j : Int)], cap), ⟨by omega, col_do he hfp hpi r2, by simp, by simpa using hcap⟩, w_4, ⟨⟨rfl, rfl, sl_eqE (k := 6) (m := mp [(6, 8)]) (by simp), rfl, trivial⟩, ⟨rfl, rfl, rfl, own_ints rfl, trivial⟩, rfl⟩⟩
        · obtain rfl : p = i := by omega
          have hf : findP ys b j p p = p := by rw [findP, if_neg (by omega)]
          rw [hf] at q3
          ((repeat' (first | refine w_a TT rfl rfl rfl sd ?_ | refine w_b ?_ | refine w_c rfl rfl ?_ | refine w_d TT rfl rfl rfl rfl sd ?_ | refine w_e ?_ | refine w_f rfl rfl ?_ | refine w_g ?_ | refine w_h ?_ | refine w_i ?_ | refine w_j ?_ | refine w_k ?_ | refine w_l ?_ | refine w_m rfl ?_ | refine w_n rfl ?_ | refine w_o TM rfl kr ?_ | ((first | refine w_p rfl rfl rfl (fun hc => ?_) (fun hc => ?_) | refine w_q rfl rfl rfl (fun hc => ?_) (fun hc => ?_) | refine w_r rfl (fun hc => ?_) (fun hc => ?_)) <;> ((try simp at hc) <;> try contradiction)))) <;> try (exfalso; omega))
          refine ⟨[], (j + 1, (ys, pv.length), pv, pc), ⟨by omega, ?_, rfl, hpc⟩, w_4, ⟨w_1, w_2, rfl⟩⟩
          show (echTo xs p b j).bind (colStep p b j) = _
          rw [he, Option.bind_some, colStep, if_neg (by dsimp only; omega)]
      · obtain rfl : j = b := by omega
        have hrk : rankO xs i j = some pv.length := by simp [rankO, he]
        rw [hrk]
        ((repeat' (first | refine w_a TT rfl rfl rfl sd ?_ | refine w_b ?_ | refine w_c rfl rfl ?_ | refine w_d TT rfl rfl rfl rfl sd ?_ | refine w_e ?_ | refine w_f rfl rfl ?_ | refine w_g ?_ | refine w_h ?_ | refine w_i ?_ | refine w_j ?_ | refine w_k ?_ | refine w_l ?_ | refine w_m rfl ?_ | refine w_n rfl ?_ | ((first | refine w_p rfl rfl rfl (fun hc => ?_) (fun hc => ?_) | refine w_q rfl rfl rfl (fun hc => ?_) (fun hc => ?_) | refine w_r rfl (fun hc => ?_) (fun hc => ?_)) <;> ((try simp at hc) <;> try contradiction)))) <;> try (exfalso; omega))
        exact fin rfl w_3 [(2, 4), (3, 6)] (.tup [.agg [.int i, .int j, .sl 2 1 0 ys.length c1], .one (.sl 3 1 0 pv.length pc), .one (.bool true)]) [(2, .own 3 c1 (.ints ys)), (3, .own 3 pc (.ints pv))] 4 ⟨ys, pv, c1, pc, rfl, rfl, rfl, rfl⟩ (by rw [y2]; rfl) ⟨trivial, ⟨rfl, rfl, trivial⟩, rfl⟩ rfl
end Go.Proofs.YtfkbjkmlpinoeaaGreat

/-
  CONTRACTS: determinants by expansion, of both packages; the plain law of it.
-/
namespace Go.Proofs.YtfkbjkmlpinoeaaGreat
open Go.RowKit

theorem gcdOf_num {a b : Int} (ha : numB a = true) (hb : numB b = true) : gcdOf a b = (Int.gcd a b : Int) := by simp [gcdOf, ha, hb]
theorem d_fitY (n : Int) (h : numB n = true) : Does Tryz.prog 120 [vI n] [] 1 (Ret (vI n) 1) := by
  refine Does.intro TT Tryz.func120 rfl (by kernel_rfl) rfl rfl fun E hE => ?_
  have h' : inB n (-400000000) 400000000 = true := h
  (repeat' (first | refine w_a TT rfl rfl rfl sd ?_ | refine w_b ?_ | refine w_c rfl rfl ?_ | refine w_d TT rfl rfl rfl rfl sd ?_ | refine w_e ?_ | refine w_f rfl rfl ?_ | refine w_g ?_ | refine w_h ?_ | ((first | refine w_z (d_l1In _ _ _) rfl rfl rfl rfl rfl rfl rfl rfl ft rfl rfl ?_ | refine w_A (d_l1In _ _ _) rfl rfl rfl rfl rfl rfl rfl rfl ft rfl rfl ?_) <;> simp only [h']) | refine w_i ?_ | refine w_j ?_ | refine w_k ?_ | refine w_l ?_ | refine w_m rfl ?_ | refine w_n rfl ?_ | refine w_o TM rfl kr ?_ | ((first | refine w_p rfl rfl rfl (fun hc => ?_) (fun hc => ?_) | refine w_q rfl rfl rfl (fun hc => ?_) (fun hc => ?_) | refine w_r rfl (fun hc => ?_) (fun hc => ?_)) <;> ((try simp at hc) <;> try contradiction))))
  refine fin_ret rfl w_3 (rfl) rfl
theorem d_fitE (n z : Int) (e : n = z) (h : numB z = true) : Does Tryz.prog 120 [vI n] [] 1 (Ret (vI z) 1) := by
  subst e; exact d_fitY n h
theorem d_fitN (n : Int) (h : numB n = false) : Does Tryz.prog 120 [vI n] [] 1 (Ret (vI (-4611686018427387904)) 1) := by
  refine Does.intro TT Tryz.func120 rfl (by kernel_rfl) rfl rfl fun E hE => ?_
  have h' : inB n (-400000000) 400000000 = false := h
  (repeat' (first | refine w_a TT rfl rfl rfl sd ?_ | refine w_b ?_ | refine w_c rfl rfl ?_ | refine w_d TT rfl rfl rfl rfl sd ?_ | refine w_e ?_ | refine w_f rfl rfl ?_ | refine w_g ?_ | refine w_h ?_ | ((first | refine w_z (d_l1In _ _ _) rfl rfl rfl rfl rfl rfl rfl rfl ft rfl rfl ?_ | refine w_A (d_l1In _ _ _) rfl rfl rfl rfl rfl rfl rfl rfl ft rfl rfl ?_) <;> simp only [h']) | refine w_i ?_ | refine w_j ?_ | refine w_k ?_ | refine w_l ?_ | refine w_m rfl ?_ | refine w_n rfl ?_ | refine w_o TM rfl kr ?_ | ((first | refine w_p rfl rfl rfl (fun hc => ?_) (fun hc => ?_) | refine w_q rfl rfl rfl (fun hc => ?_) (fun hc => ?_) | refine w_r rfl (fun hc => ?_) (fun hc => ?_)) <;> ((try simp at hc) <;> try contradiction))))
  refine fin_ret rfl w_3 (rfl) rfl

def minRow (xs : List Int) (off col : Nat) : Nat → List Int
  | 0 => []
  | j + 1 => if j = col then minRow xs off col j else minRow xs off col j ++ [xs.getD (off + j) 0]
def minM (xs : List Int) (c row col : Nat) : Nat → List Int
  | 0 => []
  | i + 1 => if i = row then minM xs c row col i else minM xs c row col i ++ minRow xs (i * c) col c
theorem minRow_len {xs : List Int} {off col : Nat} : ∀ {j : Nat}, (minRow xs off col j).length = if col < j then j - 1 else j
  | 0 => by simp [minRow]
  | j + 1 => by
    have ih := minRow_len (xs := xs) (off := off) (col := col) (j := j)
    unfold minRow
    split
    · rename_i h
      subst h
      rw [ih, if_neg (by omega), if_pos (by omega)]; omega
    · rw [List.length_append, ih, List.length_singleton]
      split <;> split <;> omega
theorem minM_len {xs : List Int} {n col : Nat} (hc : col < n + 1) : ∀ {i : Nat}, (minM xs (n + 1) 0 col (i + 1)).length = i * n
  | 0 => by simp [minM]
  | i + 1 => by
    rw [minM, if_neg (by omega), List.length_append, minM_len hc, minRow_len, if_pos hc, Nat.succ_mul]; omega
theorem minRow_num {xs : List Int} (h : xs.all numB = true) {off col : Nat} : ∀ {j : Nat}, (minRow xs off col j).all numB = true
  | 0 => rfl
  | j + 1 => by
    unfold minRow
    split
    · exact minRow_num h
    · rw [List.all_append, minRow_num h, List.all_cons, numB_true.2 (num_getD h (off + j))]; rfl
theorem minM_num {xs : List Int} (h : xs.all numB = true) {c row col : Nat} : ∀ {i : Nat}, (minM xs c row col i).all numB = true
  | 0 => rfl
  | i + 1 => by
    unfold minM
    split
    · exact minM_num h
    · rw [List.all_append, minM_num h, minRow_num h]; rfl
/-- the sum over the first j cells of the first row; d: the determinants without row 0 and a column -/
def detTo (xs : List Int) (d : Nat → Option Int) : Nat → Option Int
  | 0 => some 0
  | j + 1 => match detTo xs d j with
    | none => none
    | some s => if xs.getD j 0 = 0 then some s else match d j with
      | none => none
      | some v => some (s + (if j % 2 = 1 then -(xs.getD j 0) else xs.getD j 0) * v)
def fitO (o : Option Int) : Option Int := match o with
  | none => none
  | some s => if numB s then some s else none
def detZ : Nat → List Int → Option Int
  | 0, _ => some 1
  | n + 1, xs => fitO (detTo xs (fun j => detZ n (minM xs (n + 1) 0 j (n + 1))) (n + 1))
theorem detZ_num {n : Nat} {xs : List Int} {v : Int} (h : detZ n xs = some v) : numB v = true := by
  cases n with
  | zero => cases h; rfl
  | succ n =>
    rw [detZ] at h
    unfold fitO at h
    split at h
    · cases h
    · split at h
      · rename_i hn; cases h; exact hn
      · cases h
theorem detTo_bd {xs : List Int} {d : Nat → Option Int} (hx : xs.all numB = true) (hd : ∀ j v, d j = some v → numB v = true) : ∀ {j : Nat} {s : Int}, detTo xs d j = some s → -(160000000000000000 * (j : Int)) ≤ s ∧ s ≤ 160000000000000000 * (j : Int)
  | 0, s, h => by cases h; omega
  | j + 1, s, h => by
    unfold detTo at h
    split at h
    · cases h
    · rename_i s0 h0
      have ih := detTo_bd hx hd h0
      split at h
      · cases h; omega
      · split at h
        · cases h
        · rename_i v hv
          cases h
          have h1 := numB_true.1 (hd j v hv)
          have h2 := num_getD hx j
          have h3 : -400000000 ≤ (if j % 2 = 1 then -(xs.getD j 0) else xs.getD j 0) ∧ (if j % 2 = 1 then -(xs.getD j 0) else xs.getD j 0) ≤ 400000000 := by split <;> omega
          have h4 := prod_num h3 h1
          omega
theorem detTo_none {xs : List Int} {d : Nat → Option Int} {j : Nat} (h : detTo xs d j = none) : ∀ m, detTo xs d (j + m) = none
  | 0 => h
  | m + 1 => by rw [← Nat.add_assoc, detTo, detTo_none h m]
theorem detZ_none {n : Nat} {xs : List Int} {j : Nat} (hj : j ≤ n + 1) (h : detTo xs (fun j => detZ n (minM xs (n + 1) 0 j (n + 1))) j = none) : detZ (n + 1) xs = none := by
  have := detTo_none h (n + 1 - j)
  rw [show j + (n + 1 - j) = n + 1 by omega] at this
  rw [detZ, this]; rfl

def MinO (t : TypeId) (n : Nat) (ys : List Int) (v : AV) (Hout : List (Nat × Blk)) (n1 : Nat) : Prop := ∃ cap, ys.length ≤ cap ∧ v = .agg [.int n, .int n, .sl 2 1 0 ys.length cap] ∧ Hout = [(2, .own t cap (.ints ys))] ∧ n1 = 3
theorem MinO.out {t : TypeId} {n : Nat} {ys : List Int} : ∀ v Hout n1, MinO t n ys v Hout n1 → ∃ b, Hout = [(2, b)] ∧ n1 = 2 + 1 ∧ b.keys = [] := fun _ _ _ ⟨_, _, _, h2, h3⟩ => ⟨_, h2, h3, by simp [Blk.keys, Elts.keys, Elts.all, ints_keys]⟩
def minAt (xs : List Int) (c row col i j : Nat) : List Int := if i = row then minM xs c row col i else minM xs c row col i ++ minRow xs (i * c) col j
theorem minAt_zero {xs : List Int} {c row col i : Nat} : minAt xs c row col i 0 = minM xs c row col i := by unfold minAt; split <;> simp [minRow]
theorem minAt_full {xs : List Int} {c row col i : Nat} : minAt xs c row col i c = minM xs c row col (i + 1) := by rw [minAt, minM]
theorem minAt_skip {xs : List Int} {c row col i j : Nat} (h : i = row ∨ j = col) : minAt xs c row col i (j + 1) = minAt xs c row col i j := by
  unfold minAt
  split
  · rfl
  · rw [minRow, if_pos (by omega)]
theorem minAt_add {xs : List Int} {c row col i j : Nat} (h : i ≠ row) (h' : j ≠ col) : minAt xs c row col i (j + 1) = minAt xs c row col i j ++ [xs.getD (i * c + j) 0] := by
  unfold minAt
  rw [if_neg h, if_neg h, minRow, if_neg h', List.append_assoc]
theorem minRow_le {xs : List Int} {off col : Nat} : ∀ {j : Nat}, (minRow xs off col j).length ≤ j := fun {j} => by rw [minRow_len]; split <;> omega
theorem minM_le {xs : List Int} {c row col : Nat} : ∀ {i : Nat}, (minM xs c row col i).length ≤ i * c
  | 0 => by simp [minM]
  | i + 1 => by
    have h1 := minM_le (xs := xs) (c := c) (row := row) (col := col) (i := i)
    have h2 := minRow_le (xs := xs) (off := i * c) (col := col) (j := c)
    rw [minM, Nat.succ_mul]
    split
    · omega
    · rw [List.length_append]; omega
theorem minAt_le {xs : List Int} {c row col i j : Nat} (hi : i < 24) (hc : c ≤ 24) (hj : j ≤ c) : (minAt xs c row col i j).length ≤ 1000 := by
  have h1 := minM_le (xs := xs) (c := c) (row := row) (col := col) (i := i)
  have h2 := minRow_le (xs := xs) (off := i * c) (col := col) (j := j)
  have h3 : i * c ≤ 24 * 24 := Nat.mul_le_mul (by omega) hc
  unfold minAt
  split
  · omega
  · rw [List.length_append]; omega
theorem cell_natD {p k c : Nat} : 0 + ((p : Int) * c + k).toNat = p * c + k := by
  have e : ((p : Int) * c + k) = ((p * c + k : Nat) : Int) := by simp
  rw [e]; omega
theorem sl_eqD {k sz off a b cap : Nat} {m : Nat → Nat} (h : a = b) : some (AV.one (.sl (m k) sz off a cap)) = some ((AV.one (.sl k sz off b cap)).ren m) := by subst h; rfl
theorem own_lit3 {t : TypeId} {c : Nat} {x y : Int} {k a b cp : Nat} {m : Nat → Nat} (h : a = b) : some (Blk.own t c (.lit [.int x, .int y, .sl (m k) 1 0 a cp])) = some ((Blk.own t c (.lit [.int x, .int y, .sl k 1 0 b cp])).ren m) := by subst h; rfl

def detV : Option Int → AV
  | some d => .tup [.one (.int d), .one (.bool true)]
  | none => .tup [.one (.int 0), .one (.bool false)]
/-- what the program's expansion hands back: beyond the limit the number is told, too -/
def DetO (o : Option Int) (v : AV) (Hout : List (Nat × Blk)) (n1 : Nat) : Prop := Hout = [] ∧ n1 = 2 ∧ match o with
  | some d => v = .tup [.one (.int d), .one (.bool true)]
  | none => ∃ d, v = .tup [.one (.int d), .one (.bool false)]
def badV : Option Int → Int
  | some d => d
  | none => -4611686018427387904

def sqB (r c : Int) (xs : List Int) : Bool := isM r c xs && decide (r = c ∧ r ≤ 6)
def detB (r c : Int) (xs : List Int) : Option Int := if sqB r c xs then detZ r.toNat xs else none
def unimB (r c : Int) (xs : List Int) : Bool := match detB r c xs with
  | some d => decide (d = 1 ∨ d = -1)
  | none => false
theorem sqB_dims {r c : Int} {xs : List Int} (h : sqB r c xs = true) : ∃ n : Nat, r = n ∧ c = n ∧ n ≤ 6 ∧ xs.length = n * n ∧ xs.all numB = true := by
  simp only [sqB, Bool.and_eq_true, decide_eq_true_eq] at h
  obtain ⟨h1, rfl, h3⟩ := h
  obtain ⟨⟨g1, g2, g3, g4, g5⟩, g6⟩ := isM_true h1
  obtain ⟨n, rfl⟩ := Int.eq_ofNat_of_zero_le g1
  exact ⟨n, rfl, rfl, by omega, by exact_mod_cast g5, g6⟩
theorem detB_num {r c : Int} {xs : List Int} {d : Int} (h : detB r c xs = some d) : -400000000 ≤ d ∧ d ≤ 400000000 := by
  unfold detB at h
  split at h
  · exact numB_true.1 (detZ_num h)
  · cases h
end Go.Proofs.YtfkbjkmlpinoeaaGreat
