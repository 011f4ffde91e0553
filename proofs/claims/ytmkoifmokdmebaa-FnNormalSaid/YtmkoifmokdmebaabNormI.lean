/-
  CONTRACT: the element of a module that a vector stands for, of the program.
-/
import Derived.Test.YtmkoifmokdmebaabNorm
set_option linter.unusedVariables false
set_option linter.unusedSimpArgs false
namespace Go.Proofs.Ytmkoifmokdmebaa
open Go.RowKit

theorem first_piv {ys : List Int} {off b p : Nat} {j : Int} (h1 : p < b) (h2 : 0 < ys.getD (off + p) 0) (h3 : ∀ k, k < p → ys.getD (off + k) 0 = 0) (hj : FirstN ys off b j) : j = (p : Int) := by
  rcases hj with ⟨h, _⟩ | ⟨k, g1, g2, g3, g4⟩
  · have := h p h1; omega
  · rcases Nat.lt_trichotomy k p with e | e | e
    · exact absurd (h3 k e) g3
    · subst e; exact g2
    · have := g4 p e; omega
theorem numB_negE (z : Int) : numB (-z) = numB z := by
  cases h : numB z
  · cases h' : numB (-z)
    · rfl
    · have := numB_neg h'
      rw [Int.neg_neg, h] at this; cases this
  · exact numB_neg h
set_option maxRecDepth 100000 in
set_option maxHeartbeats 8000000 in
theorem d_normI (r c : Int) (xs vs : List Int) (ca cv : Nat) (hl : xs.length ≤ 1099511627776) (hl' : vs.length ≤ 1099511627776) :
    Does Try.prog 27 [vM r c 1 xs.length ca, vS 2 1 0 vs.length cv] [(1, .ro (.ints xs)), (2, .ro (.ints vs))] 3 (NormR 3 (normO r c xs vs) 3) := by
  refine Does.intro TT Try.func27 rfl (by kernel_rfl) rfl rfl fun E hE => ?_
  have hba := d_basI r c xs ca hl
  cases ho : basO r c xs with
  | none =>
    have hR : normO r c xs vs = none := by simp [normO, ho]
    rw [hR]
    rw [ho] at hba
    ((repeat' (first | (refine awpL_step TT rfl rfl rfl sd ?_) | (refine awpL_nil ?_) | (refine awpL_skip rfl rfl ?_) | (refine awpQ_step TT rfl rfl rfl rfl sd ?_) | (refine awpQ_nil ?_) | (refine awpQ_skip rfl rfl ?_) | (refine awp_seq ?_) | (refine awp_region ?_) | ((refine awpL_call (hba) rfl rfl rfl rfl rfl rfl rfl ft rfl ?_); rintro v Hout n1 ⟨rfl, rfl, rfl⟩) | (refine awp_block ?_) | (refine awp_exit ?_) | (refine awp_skip ?_) | (refine awp_ret ?_) | (refine awp_cond_t rfl ?_) | (refine awp_cond_f rfl ?_) | (refine awp_quiet TM rfl (by kernel_rfl) ?_) | ((first | refine awpL_split rfl rfl rfl (fun hc => ?_) (fun hc => ?_) | refine awpQ_split rfl rfl rfl (fun hc => ?_) (fun hc => ?_) | refine awp_cond rfl (fun hc => ?_) (fun hc => ?_)) <;> ((try simp at hc) <;> try contradiction)))) <;> try (exfalso; omega))
    all_goals exact fin rfl (by repeat' (first | exact trivial | exact Nat.zero_lt_one | omega | refine ⟨?_, ?_⟩)) [(3, 5)] (.tup [.one (.sl 3 1 0 0 0), .one (.bool false)]) [(3, .own 3 0 (.ints []))] 4 ⟨0, Nat.le_refl _, rfl, rfl, rfl⟩ rfl ⟨trivial, ⟨own_ints rfl, trivial⟩, rfl⟩ rfl
  | some st =>
    obtain ⟨ys, t⟩ := st
    obtain ⟨a, b, rfl, rfl, ha, hb, hta, htb, hpv⟩ := bas_piv ho
    rw [ho] at hba
    have him := d_areNumbers vs cv hl'
    by_cases hg : (vs.length : Int) = b ∧ vs.all numB = true
    · have hR : normO a b xs vs = nrTo ys b vs t := by simp only [normO, ho]; rw [if_pos hg]; rfl
      obtain ⟨hvb, hvn⟩ := hg
      have hvb' : vs.length = b := by omega
      rw [hvn] at him
      rw [hR]
      ((repeat' (first | (refine awpL_step TT rfl rfl rfl sd ?_) | (refine awpL_nil ?_) | (refine awpL_skip rfl rfl ?_) | (refine awpQ_step TT rfl rfl rfl rfl sd ?_) | (refine awpQ_nil ?_) | (refine awpQ_skip rfl rfl ?_) | (refine awp_seq ?_) | (refine awp_region ?_) | ((refine awpL_call (hba) rfl rfl rfl rfl rfl rfl rfl ft rfl ?_); rintro v Hout n1 ⟨cy, hcy, rfl, rfl, rfl⟩) | (first | refine awpL_ret (him) rfl rfl rfl rfl rfl rfl rfl rfl ft rfl rfl ?_ | refine awpQ_ret (him) rfl rfl rfl rfl rfl rfl rfl rfl ft rfl rfl ?_ | refine awpHop_ret _ (him) rfl rfl rfl rfl rfl rfl rfl rfl rfl ft rfl rfl sb rfl ?_) | (first | (refine awpL_append TT rfl rfl rfl rfl rfl sd ?_; intro cap hcap) | (refine awpHop_append TT _ rfl rfl rfl rfl rfl rfl sd sb rfl rfl ?_; intro cap hcap)) | (refine awp_block ?_) | (refine awp_exit ?_) | (refine awp_skip ?_) | (refine awp_ret ?_) | (refine awp_cond_t rfl ?_) | (refine awp_cond_f rfl ?_) | (refine awp_quiet TM rfl (by kernel_rfl) ?_) | ((first | refine awpL_split rfl rfl rfl (fun hc => ?_) (fun hc => ?_) | refine awpQ_split rfl rfl rfl (fun hc => ?_) (fun hc => ?_) | refine awp_cond rfl (fun hc => ?_) (fun hc => ?_)) <;> ((try simp at hc) <;> try contradiction)))) <;> try (exfalso; omega))
      refine awp_loop hE (fun x : Nat × List Int => x.1 ≤ t ∧ nrTo ys b vs x.1 = some x.2) (fun x => t - x.1)
        (fun x => [(6, .one (.ptr 5 3 0 0)), (8, vS 4 1 0 b cap), (9, vI x.1)]) (fun x => [(3, .own 3 cy (.ints ys)), (4, .own 3 cap (.ints x.2)), (5, .own 27 1 (.lit [.int t, .int b, .sl 3 1 0 ys.length cy]))]) 6 [(3, 4), (4, 7), (5, 5)] (0, vs) ⟨Nat.zero_le _, rfl⟩ ⟨⟨rfl, sl_eqA (by omega), rfl, trivial⟩, ⟨rfl, own_ints (by simp), rfl, trivial⟩, rfl⟩ ?_
      rintro ⟨i, out⟩ ⟨hi, hout⟩
      dsimp only at hi hout ⊢
      obtain ⟨u1, u2⟩ := nrTo_ok hvn hout
      have u1b : out.length = b := u1.trans hvb'
      have hcap2 : b ≤ cap := by omega
      by_cases hit : i < t
      · have hyl : ys.length = t * b := hpv.len
        obtain ⟨k1, k2, k3⟩ := hpv.yes i hit
        have hyl2 : t * b ≤ 24 * 24 := Nat.mul_le_mul (by omega) hb
        have hrin := row_in (c := b) hit
        have hfc := fun c => d_firstCell ys (i * b) b c (by have := row_in (c := b) hit; omega) (by have : t * b ≤ 24 * 24 := Nat.mul_le_mul (by omega) hb; omega)
        obtain ⟨p, hp⟩ : ∃ p, p = pivF ys (i * b) b := ⟨_, rfl⟩
        rw [← hp] at k1 k2 k3
        have no := num_at u2 p
        have nob := num_getD u2 p
        have nc := num_at hpv.num (i * b + p)
        have ncb := num_getD hpv.num (i * b + p)
        have hdf := d_dfI (out.getD p 0) (ys.getD (i * b + p) 0) no nc (by omega)
        rw [dfV_ok no nc (by omega)] at hdf
        have hqb := Int.natAbs_ediv_le_natAbs (out.getD p 0) (ys.getD (i * b + p) 0)
        have e0 : out.getD (0 + (p : Int).toNat) 0 = out.getD p 0 := by rw [Nat.zero_add, Int.toNat_natCast]
        have hQ : nrQ ys out b i = -(out.getD p 0 / ys.getD (i * b + p) 0) := by rw [nrQ, ← hp]
        have hstep : nrTo ys b vs (i + 1) = nrAt ys b i out := by rw [nrTo, hout]; rfl
        unfold nrAt at hstep
        rw [hQ] at hstep
        generalize hqq : out.getD p 0 / ys.getD (i * b + p) 0 = q at *
        have e00 : ys.getD (i * b + (p : Int).toNat) 0 = ys.getD (i * b + p) 0 := by rw [Int.toNat_natCast]
        have hfp : ∀ j, FirstN ys (i * b) b j → j = (p : Int) := fun j hj => first_piv k1 k2 k3 hj
        rw [← e0, ← e00] at hdf
        ((repeat' (first | (refine awpL_step TT rfl rfl rfl sd ?_) | (refine awpL_nil ?_) | (refine awpL_skip rfl rfl ?_) | (refine awpQ_step TT rfl rfl rfl rfl sd ?_) | (refine awpQ_nil ?_) | (refine awpQ_skip rfl rfl ?_) | (refine awp_seq ?_) | (refine awp_region ?_) | ((refine awpL_call (d_rowAt t b i ys.length cy ys rfl hyl hcy (by omega) hb hit) rfl rfl rfl rfl rfl rfl rfl ft rfl ?_); rintro v Hout n1 ⟨cp, rfl, rfl, rfl⟩) | ((refine awpL_call (hfc _) rfl rfl rfl rfl rfl rfl rfl ft rfl ?_); rintro v Hout n1 ⟨jj, rfl, rfl, rfl, hj⟩; have hjj := hfp _ hj; subst hjj) | (first | refine awpL_ret (hdf) rfl rfl rfl rfl rfl rfl rfl rfl ft rfl rfl ?_ | refine awpQ_ret (hdf) rfl rfl rfl rfl rfl rfl rfl rfl ft rfl rfl ?_ | refine awpHop_ret _ (hdf) rfl rfl rfl rfl rfl rfl rfl rfl rfl ft rfl rfl sb rfl ?_) | (refine awp_block ?_) | (refine awp_exit ?_) | (refine awp_skip ?_) | (refine awp_ret ?_) | (refine awp_cond_t rfl ?_) | (refine awp_cond_f rfl ?_) | (refine awp_quiet TM rfl (by kernel_rfl) ?_) | ((first | refine awpL_split rfl rfl rfl (fun hc => ?_) (fun hc => ?_) | refine awpQ_split rfl rfl rfl (fun hc => ?_) (fun hc => ?_) | refine awp_cond rfl (fun hc => ?_) (fun hc => ?_)) <;> ((try simp at hc) <;> try contradiction)))) <;> try (exfalso; omega))
        refine awp_loop hE (fun k : Nat => k ≤ b ∧ nrOK ys out b i (-q) k = true) (fun k => b - k)
          (fun k => [(6, .one (.ptr 5 3 0 0)), (8, vS 4 1 0 b cap), (9, vI i), (10, vS 3 1 (i * b) b cp), (12, vI q), (65, vI b), (66, vI k)]) (fun k => [(3, .own 3 cy (.ints ys)), (4, .own 3 cap (.ints (updTo out 0 (addF ys b i (-q)) k))), (5, .own 27 1 (.lit [.int t, .int b, .sl 3 1 0 ys.length cy]))]) 6 [] 0 ⟨Nat.zero_le _, rfl⟩ ⟨(by repeat' (first | exact trivial | refine ⟨rfl, ?_⟩ | refine ⟨congrArg some (congrArg vI (by first | omega | (simp; done) | (simp; omega))), ?_⟩ | refine ⟨sl_eqA (by first | omega | (simp; done) | (simp; omega)), ?_⟩)), (by repeat' (first | exact trivial | refine ⟨rfl, ?_⟩)), rfl⟩ ?_
        rintro k ⟨hk, hok⟩
        have hul : (updTo out 0 (addF ys b i (-q)) k).length = b := updTo_len.trans u1b
        by_cases hkb : k < b
        · have a1 := updTo_at (xs := out) (off := 0) (f := addF ys b i (-q)) (p := 0 + k) (k := k) (by omega)
          have e1 : 0 + (k : Int).toNat = 0 + k := by omega
          have v1 := num_getD u2 (0 + k)
          rw [← a1, ← e1] at v1
          have ey : ys.getD (i * b + (k : Int).toNat) 0 = ys.getD (i * b + k) 0 := by rw [Int.toNat_natCast]
          have yb := num_getD hpv.num (i * b + (k : Int).toNat)
          have hm := mul_bd (A := 400000000) (B := 400000000) (a := ys.getD (i * b + (k : Int).toNat) 0) (b := q) (by omega) (by omega) (by omega) (by omega)
          have g1 := d_numI (ys.getD (i * b + (k : Int).toNat) 0 * q)
          have n1e : numB (ys.getD (i * b + (k : Int).toNat) 0 * q) = numB (ys.getD (i * b + k) 0 * -q) := by rw [ey, Int.mul_neg, numB_negE]
          rw [n1e] at g1
          have hV : (updTo out 0 (addF ys b i (-q)) k).getD (0 + (k : Int).toNat) 0 - ys.getD (i * b + (k : Int).toNat) 0 * q = addF ys b i (-q) k (out.getD (0 + k) 0) := by rw [e1, a1, ey, addF, Int.mul_neg]; omega
          have hI : 0 + (k : Int).toNat < (updTo out 0 (addF ys b i (-q)) k).length := by omega
          have hZ : ((updTo out 0 (addF ys b i (-q)) k).set (0 + (k : Int).toNat) ((updTo out 0 (addF ys b i (-q)) k).getD (0 + (k : Int).toNat) 0 - ys.getD (i * b + (k : Int).toNat) 0 * q)).getD (0 + (k : Int).toNat) 0 = addF ys b i (-q) k (out.getD (0 + k) 0) := by
            rw [← hV, List.getD_eq_getElem?_getD, List.getElem?_set_self hI]; rfl
          have g2 := d_numI (((updTo out 0 (addF ys b i (-q)) k).set (0 + (k : Int).toNat) ((updTo out 0 (addF ys b i (-q)) k).getD (0 + (k : Int).toNat) 0 - ys.getD (i * b + (k : Int).toNat) 0 * q)).getD (0 + (k : Int).toNat) 0)
          have n2e : numB (((updTo out 0 (addF ys b i (-q)) k).set (0 + (k : Int).toNat) ((updTo out 0 (addF ys b i (-q)) k).getD (0 + (k : Int).toNat) 0 - ys.getD (i * b + (k : Int).toNat) 0 * q)).getD (0 + (k : Int).toNat) 0) = numB (addF ys b i (-q) k (out.getD (0 + k) 0)) := by rw [hZ]
          rw [n2e] at g2
          have hbadN : ¬ (numB (ys.getD (i * b + k) 0 * -q) = true ∧ numB (addF ys b i (-q) k (out.getD (0 + k) 0)) = true) → nrTo ys b vs t = none := fun h => by
            rw [nrOK_no hkb h] at hstep
            exact none_le (f := nrTo ys b vs) (fun n h m => nrTo_none h m) (n := i + 1) (by omega) (hstep.trans (if_neg (by decide)))
          cases q1 : numB (ys.getD (i * b + k) 0 * -q)
          · rw [q1] at g1
            rw [hbadN (fun h => by rw [q1] at h; exact absurd h.1 (by decide))]
            ((repeat' (first | (refine awpL_step TT rfl rfl rfl sd ?_) | (refine awpL_nil ?_) | (refine awpL_skip rfl rfl ?_) | (refine awpQ_step TT rfl rfl rfl rfl sd ?_) | (refine awpQ_nil ?_) | (refine awpQ_skip rfl rfl ?_) | (refine awp_seq ?_) | (refine awp_region ?_) | (first | refine awpL_ret (g1) rfl rfl rfl rfl rfl rfl rfl rfl ft rfl rfl ?_ | refine awpQ_ret (g1) rfl rfl rfl rfl rfl rfl rfl rfl ft rfl rfl ?_ | refine awpHop_ret _ (g1) rfl rfl rfl rfl rfl rfl rfl rfl rfl ft rfl rfl sb rfl ?_) | (refine awp_block ?_) | (refine awp_exit ?_) | (refine awp_skip ?_) | (refine awp_ret ?_) | (refine awp_cond_t rfl ?_) | (refine awp_cond_f rfl ?_) | (refine awp_quiet TM rfl (by kernel_rfl) ?_) | ((first | refine awpL_split rfl rfl rfl (fun hc => ?_) (fun hc => ?_) | refine awpQ_split rfl rfl rfl (fun hc => ?_) (fun hc => ?_) | refine awp_cond rfl (fun hc => ?_) (fun hc => ?_)) <;> ((try simp at hc) <;> try contradiction)))) <;> try (exfalso; omega))
            all_goals exact fin rfl (by repeat' (first | exact trivial | exact Nat.zero_lt_one | omega | refine ⟨?_, ?_⟩)) [(3, 6)] (.tup [.one (.sl 3 1 0 0 0), .one (.bool false)]) [(3, .own 3 0 (.ints []))] 4 ⟨0, Nat.le_refl _, rfl, rfl, rfl⟩ rfl ⟨trivial, ⟨own_ints rfl, trivial⟩, rfl⟩ rfl
          · rw [q1] at g1
            cases q2 : numB (addF ys b i (-q) k (out.getD (0 + k) 0))
            · rw [q2] at g2
              rw [hbadN (fun h => by rw [q2] at h; exact absurd h.2 (by decide))]
              ((repeat' (first | (refine awpL_step TT rfl rfl rfl sd ?_) | (refine awpL_nil ?_) | (refine awpL_skip rfl rfl ?_) | (refine awpQ_step TT rfl rfl rfl rfl sd ?_) | (refine awpQ_nil ?_) | (refine awpQ_skip rfl rfl ?_) | (refine awp_seq ?_) | (refine awp_region ?_) | (first | refine awpL_ret (g1) rfl rfl rfl rfl rfl rfl rfl rfl ft rfl rfl ?_ | refine awpQ_ret (g1) rfl rfl rfl rfl rfl rfl rfl rfl ft rfl rfl ?_ | refine awpHop_ret _ (g1) rfl rfl rfl rfl rfl rfl rfl rfl rfl ft rfl rfl sb rfl ?_) | (first | refine awpL_ret (g2) rfl rfl rfl rfl rfl rfl rfl rfl ft rfl rfl ?_ | refine awpQ_ret (g2) rfl rfl rfl rfl rfl rfl rfl rfl ft rfl rfl ?_ | refine awpHop_ret _ (g2) rfl rfl rfl rfl rfl rfl rfl rfl rfl ft rfl rfl sb rfl ?_) | (refine awp_block ?_) | (refine awp_exit ?_) | (refine awp_skip ?_) | (refine awp_ret ?_) | (refine awp_cond_t rfl ?_) | (refine awp_cond_f rfl ?_) | (refine awp_quiet TM rfl (by kernel_rfl) ?_) | ((first | refine awpL_split rfl rfl rfl (fun hc => ?_) (fun hc => ?_) | refine awpQ_split rfl rfl rfl (fun hc => ?_) (fun hc => ?_) | refine awp_cond rfl (fun hc => ?_) (fun hc => ?_)) <;> ((try simp at hc) <;> try contradiction)))) <;> try (exfalso; omega))
              all_goals exact fin rfl (by repeat' (first | exact trivial | exact Nat.zero_lt_one | omega | refine ⟨?_, ?_⟩)) [(3, 6)] (.tup [.one (.sl 3 1 0 0 0), .one (.bool false)]) [(3, .own 3 0 (.ints []))] 4 ⟨0, Nat.le_refl _, rfl, rfl, rfl⟩ rfl ⟨trivial, ⟨own_ints rfl, trivial⟩, rfl⟩ rfl
            · rw [q2] at g2
              ((repeat' (first | (refine awpL_step TT rfl rfl rfl sd ?_) | (refine awpL_nil ?_) | (refine awpL_skip rfl rfl ?_) | (refine awpQ_step TT rfl rfl rfl rfl sd ?_) | (refine awpQ_nil ?_) | (refine awpQ_skip rfl rfl ?_) | (refine awp_seq ?_) | (refine awp_region ?_) | (first | refine awpL_ret (g1) rfl rfl rfl rfl rfl rfl rfl rfl ft rfl rfl ?_ | refine awpQ_ret (g1) rfl rfl rfl rfl rfl rfl rfl rfl ft rfl rfl ?_ | refine awpHop_ret _ (g1) rfl rfl rfl rfl rfl rfl rfl rfl rfl ft rfl rfl sb rfl ?_) | (first | refine awpL_ret (g2) rfl rfl rfl rfl rfl rfl rfl rfl ft rfl rfl ?_ | refine awpQ_ret (g2) rfl rfl rfl rfl rfl rfl rfl rfl ft rfl rfl ?_ | refine awpHop_ret _ (g2) rfl rfl rfl rfl rfl rfl rfl rfl rfl ft rfl rfl sb rfl ?_) | (refine awp_block ?_) | (refine awp_exit ?_) | (refine awp_skip ?_) | (refine awp_ret ?_) | (refine awp_cond_t rfl ?_) | (refine awp_cond_f rfl ?_) | (refine awp_quiet TM rfl (by kernel_rfl) ?_) | ((first | refine awpL_split rfl rfl rfl (fun hc => ?_) (fun hc => ?_) | refine awpQ_split rfl rfl rfl (fun hc => ?_) (fun hc => ?_) | refine awp_cond rfl (fun hc => ?_) (fun hc => ?_)) <;> ((try simp at hc) <;> try contradiction)))) <;> try (exfalso; omega))
              all_goals
                refine ⟨[], k + 1, ⟨hkb, nrOK_next hok q1 q2⟩, (by first | omega | (dsimp only; omega)), ⟨(by repeat' (first | exact trivial | refine ⟨rfl, ?_⟩ | refine ⟨congrArg some (congrArg vI (by first | omega | (simp; done) | (simp; omega))), ?_⟩ | refine ⟨sl_eqA (by first | omega | (simp; done) | (simp; omega)), ?_⟩)), ⟨rfl, own_ints ?_, rfl, trivial⟩, rfl⟩⟩
                rw [hV, e1]; rfl
        · obtain rfl : k = b := by omega
          rw [if_pos hok] at hstep
          ((repeat' (first | (refine awpL_step TT rfl rfl rfl sd ?_) | (refine awpL_nil ?_) | (refine awpL_skip rfl rfl ?_) | (refine awpQ_step TT rfl rfl rfl rfl sd ?_) | (refine awpQ_nil ?_) | (refine awpQ_skip rfl rfl ?_) | (refine awp_seq ?_) | (refine awp_region ?_) | (refine awp_block ?_) | (refine awp_exit ?_) | (refine awp_skip ?_) | (refine awp_ret ?_) | (refine awp_cond_t rfl ?_) | (refine awp_cond_f rfl ?_) | (refine awp_quiet TM rfl (by kernel_rfl) ?_) | ((first | refine awpL_split rfl rfl rfl (fun hc => ?_) (fun hc => ?_) | refine awpQ_split rfl rfl rfl (fun hc => ?_) (fun hc => ?_) | refine awp_cond rfl (fun hc => ?_) (fun hc => ?_)) <;> ((try simp at hc) <;> try contradiction)))) <;> try (exfalso; omega))
          all_goals exact ⟨[], (i + 1, nrX ys out k i (-q)), ⟨hit, hstep⟩, (by first | omega | (dsimp only; omega)), ⟨(by repeat' (first | exact trivial | refine ⟨rfl, ?_⟩ | refine ⟨congrArg some (congrArg vI (by first | omega | (simp; done) | (simp; omega))), ?_⟩ | refine ⟨sl_eqA (by first | omega | (simp; done) | (simp; omega)), ?_⟩)), (by repeat' (first | exact trivial | refine ⟨rfl, ?_⟩)), rfl⟩⟩
      · obtain rfl : i = t := by omega
        rw [hout]
        ((repeat' (first | (refine awpL_step TT rfl rfl rfl sd ?_) | (refine awpL_nil ?_) | (refine awpL_skip rfl rfl ?_) | (refine awpQ_step TT rfl rfl rfl rfl sd ?_) | (refine awpQ_nil ?_) | (refine awpQ_skip rfl rfl ?_) | (refine awp_seq ?_) | (refine awp_region ?_) | (refine awp_block ?_) | (refine awp_exit ?_) | (refine awp_skip ?_) | (refine awp_ret ?_) | (refine awp_cond_t rfl ?_) | (refine awp_cond_f rfl ?_) | (refine awp_quiet TM rfl (by kernel_rfl) ?_) | ((first | refine awpL_split rfl rfl rfl (fun hc => ?_) (fun hc => ?_) | refine awpQ_split rfl rfl rfl (fun hc => ?_) (fun hc => ?_) | refine awp_cond rfl (fun hc => ?_) (fun hc => ?_)) <;> ((try simp at hc) <;> try contradiction)))) <;> try (exfalso; omega))
        all_goals exact fin rfl (by repeat' (first | exact trivial | exact Nat.zero_lt_one | omega | refine ⟨?_, ?_⟩)) [(3, 4)] (.tup [.one (.sl 3 1 0 b cap), .one (.bool true)]) [(3, .own 3 cap (.ints out))] 4 ⟨cap, by omega, by rw [u1b], rfl, rfl⟩ rfl ⟨trivial, ⟨rfl, trivial⟩, rfl⟩ rfl
    · have hR : normO a b xs vs = none := by simp only [normO, ho]; rw [if_neg hg]
      rw [hR]
      by_cases hvb : (vs.length : Int) = b
      · have hF : vs.all numB = false := by
          cases h : vs.all numB
          · rfl
          · exact absurd ⟨hvb, h⟩ hg
        rw [hF] at him
        ((repeat' (first | (refine awpL_step TT rfl rfl rfl sd ?_) | (refine awpL_nil ?_) | (refine awpL_skip rfl rfl ?_) | (refine awpQ_step TT rfl rfl rfl rfl sd ?_) | (refine awpQ_nil ?_) | (refine awpQ_skip rfl rfl ?_) | (refine awp_seq ?_) | (refine awp_region ?_) | ((refine awpL_call (hba) rfl rfl rfl rfl rfl rfl rfl ft rfl ?_); rintro v Hout n1 ⟨cy, hcy, rfl, rfl, rfl⟩) | (first | refine awpL_ret (him) rfl rfl rfl rfl rfl rfl rfl rfl ft rfl rfl ?_ | refine awpQ_ret (him) rfl rfl rfl rfl rfl rfl rfl rfl ft rfl rfl ?_ | refine awpHop_ret _ (him) rfl rfl rfl rfl rfl rfl rfl rfl rfl ft rfl rfl sb rfl ?_) | (refine awp_block ?_) | (refine awp_exit ?_) | (refine awp_skip ?_) | (refine awp_ret ?_) | (refine awp_cond_t rfl ?_) | (refine awp_cond_f rfl ?_) | (refine awp_quiet TM rfl (by kernel_rfl) ?_) | ((first | refine awpL_split rfl rfl rfl (fun hc => ?_) (fun hc => ?_) | refine awpQ_split rfl rfl rfl (fun hc => ?_) (fun hc => ?_) | refine awp_cond rfl (fun hc => ?_) (fun hc => ?_)) <;> ((try simp at hc) <;> try contradiction)))) <;> try (exfalso; omega))
        all_goals exact fin rfl (by repeat' (first | exact trivial | exact Nat.zero_lt_one | omega | refine ⟨?_, ?_⟩)) [(3, 6)] (.tup [.one (.sl 3 1 0 0 0), .one (.bool false)]) [(3, .own 3 0 (.ints []))] 4 ⟨0, Nat.le_refl _, rfl, rfl, rfl⟩ rfl ⟨trivial, ⟨own_ints rfl, trivial⟩, rfl⟩ rfl
      · ((repeat' (first | (refine awpL_step TT rfl rfl rfl sd ?_) | (refine awpL_nil ?_) | (refine awpL_skip rfl rfl ?_) | (refine awpQ_step TT rfl rfl rfl rfl sd ?_) | (refine awpQ_nil ?_) | (refine awpQ_skip rfl rfl ?_) | (refine awp_seq ?_) | (refine awp_region ?_) | ((refine awpL_call (hba) rfl rfl rfl rfl rfl rfl rfl ft rfl ?_); rintro v Hout n1 ⟨cy, hcy, rfl, rfl, rfl⟩) | (refine awp_block ?_) | (refine awp_exit ?_) | (refine awp_skip ?_) | (refine awp_ret ?_) | (refine awp_cond_t rfl ?_) | (refine awp_cond_f rfl ?_) | (refine awp_quiet TM rfl (by kernel_rfl) ?_) | ((first | refine awpL_split rfl rfl rfl (fun hc => ?_) (fun hc => ?_) | refine awpQ_split rfl rfl rfl (fun hc => ?_) (fun hc => ?_) | refine awp_cond rfl (fun hc => ?_) (fun hc => ?_)) <;> ((try simp at hc) <;> try contradiction)))) <;> try (exfalso; omega))
        all_goals exact fin rfl (by repeat' (first | exact trivial | exact Nat.zero_lt_one | omega | refine ⟨?_, ?_⟩)) [(3, 6)] (.tup [.one (.sl 3 1 0 0 0), .one (.bool false)]) [(3, .own 3 0 (.ints []))] 4 ⟨0, Nat.le_refl _, rfl, rfl, rfl⟩ rfl ⟨trivial, ⟨own_ints rfl, trivial⟩, rfl⟩ rfl
end Go.Proofs.Ytmkoifmokdmebaa
