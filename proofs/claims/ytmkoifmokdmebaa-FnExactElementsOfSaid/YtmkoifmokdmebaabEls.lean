/-
  CONTRACTS: the elements of a finite module, of both packages.
-/
import Derived.Test.YtmkoifmokdmebaabNormLaw
import Derived.Test.YtmkoifmokdmebaabPts
set_option linter.unusedVariables false
set_option linter.unusedSimpArgs false
namespace Go.Proofs.Ytmkoifmokdmebaa
open Go.RowKit

def dgX (ys : List Int) (b i : Nat) : Int := ys.getD (i * b + i) 0
def dgP (ys : List Int) (b : Nat) : Nat → Int
  | 0 => 1
  | k + 1 => dgP ys b k * dgX ys b k
def hiD (ys : List Int) (b : Nat) : Nat → List Int
  | 0 => []
  | k + 1 => hiD ys b k ++ [dgX ys b k - 1]
theorem hiD_len {ys : List Int} {b : Nat} : ∀ {k : Nat}, (hiD ys b k).length = k
  | 0 => rfl
  | k + 1 => by simp [hiD, hiD_len]
theorem hiD_at {ys : List Int} {b i : Nat} : ∀ {k : Nat}, i < k → (hiD ys b k).getD i 0 = dgX ys b i - 1
  | 0, h => by omega
  | k + 1, h => by
    have hl := hiD_len (ys := ys) (b := b) (k := k)
    simp only [hiD, List.getD_eq_getElem?_getD]
    rcases Nat.lt_or_ge i k with e | e
    · have := hiD_at (ys := ys) (b := b) e
      simp only [List.getD_eq_getElem?_getD] at this
      rw [List.getElem?_append_left (by omega)]
      exact this
    · obtain rfl : i = k := by omega
      rw [List.getElem?_append_right (by omega), hl]
      simp
theorem hiD_mem {ys : List Int} {b : Nat} {x : Int} : ∀ {k : Nat}, x ∈ hiD ys b k → ∃ i, i < k ∧ x = dgX ys b i - 1
  | 0, h => by simp [hiD] at h
  | k + 1, h => by
    simp only [hiD, List.mem_append, List.mem_singleton] at h
    rcases h with h | h
    · obtain ⟨i, h1, h2⟩ := hiD_mem h
      exact ⟨i, by omega, h2⟩
    · exact ⟨k, by omega, h⟩
/-- as many rows as columns: the pivots are on the diagonal -/
theorem Piv.diag {b : Nat} {ys : List Int} (h : Piv b b ys) : ∀ i, i < b → pivF ys (i * b) b = i := by
  have up : ∀ i, i < b → i ≤ pivF ys (i * b) b := fun i => by
    induction i with
    | zero => intro _; exact Nat.zero_le _
    | succ i ih =>
      intro hi
      have h1 := ih (by omega)
      have h2 := h.mono i (i + 1) (by omega) hi
      omega
  have dn : ∀ d i, i + d + 1 = b → pivF ys (i * b) b ≤ i := fun d => by
    induction d with
    | zero =>
      intro i hi
      have := (h.yes i (by omega)).1
      omega
    | succ d ih =>
      intro i hi
      have h1 := ih (i + 1) (by omega)
      have h2 := h.mono i (i + 1) (by omega) (by omega)
      omega
  intro i hi
  have h1 := up i hi
  have h2 := dn (b - 1 - i) i (by omega)
  omega
theorem Piv.dg {b i : Nat} {ys : List Int} (h : Piv b b ys) (hi : i < b) : 1 ≤ dgX ys b i ∧ dgX ys b i ≤ 400000000 := by
  have h1 := (h.yes i hi).2.1
  rw [h.diag i hi] at h1
  have h2 := num_getD h.num (i * b + i)
  unfold dgX
  omega
theorem dgP_pos {b : Nat} {ys : List Int} (h : Piv b b ys) : ∀ {k : Nat}, k ≤ b → 1 ≤ dgP ys b k
  | 0, _ => by simp [dgP]
  | k + 1, hk => by
    have h1 := dgP_pos h (k := k) (by omega)
    have h2 := (h.dg (i := k) (by omega)).1
    have := Int.mul_le_mul h1 h2 (by omega) (by omega)
    rw [dgP]; omega
theorem dgP_mono {b : Nat} {ys : List Int} (h : Piv b b ys) {k : Nat} : ∀ m, k + m ≤ b → dgP ys b k ≤ dgP ys b (k + m)
  | 0, _ => Int.le_refl _
  | m + 1, hk => by
    have h1 := dgP_mono h (k := k) m (by omega)
    have h2 := (h.dg (i := k + m) (by omega)).1
    have h3 := dgP_pos h (k := k + m) (by omega)
    have := Int.mul_le_mul_of_nonneg_left h2 (show 0 ≤ dgP ys b (k + m) by omega)
    rw [← Nat.add_assoc, dgP]; omega
theorem dgP_le {b : Nat} {ys : List Int} (h : Piv b b ys) {k n : Nat} (hk : k ≤ n) (hn : n ≤ b) : dgP ys b k ≤ dgP ys b n := by
  have := dgP_mono h (k := k) (n - k) (by omega)
  rwa [show k + (n - k) = n by omega] at this
theorem wid_dg {b k : Nat} {ys : List Int} (hk : k < b) : widW (List.replicate b 0) (hiD ys b b) k = dgX ys b k := by
  unfold widW
  rw [hiD_at hk]
  have : (List.replicate b (0 : Int)).getD k 0 = 0 := by simp [List.getD_eq_getElem?_getD, hk]
  omega
theorem cnt_dg {b : Nat} {ys : List Int} : ∀ {k : Nat}, k ≤ b → cntW (List.replicate b 0) (hiD ys b b) k = dgP ys b k
  | 0, _ => rfl
  | k + 1, hk => by rw [cntW, cnt_dg (by omega), wid_dg (by omega), dgP]
theorem okTo_of {lo hi : List Int} : ∀ {k : Nat}, (∀ j, j ≤ k → cntW lo hi j ≤ 4000) → okTo lo hi k = true
  | 0, _ => rfl
  | k + 1, h => by rw [okTo, okTo_of fun j hj => h j (by omega), decide_eq_true (h (k + 1) (Nat.le_refl _))]; rfl
theorem box_dg {b : Nat} {ys : List Int} (h : Piv b b ys) (hp : dgP ys b b ≤ 500) : boxO (List.replicate b 0) (hiD ys b b) = some (boxTo (List.replicate b 0) (hiD ys b b) b) := by
  unfold boxO
  rw [List.length_replicate, if_pos]
  refine okTo_of fun j hj => ?_
  rw [cnt_dg hj]
  have := dgP_le h hj (Nat.le_refl _)
  omega
def elsO (r c : Int) (xs : List Int) : Option (List (List Int)) := match basO r c xs with
  | none => none
  | some s => if (s.2 : Int) = c ∧ dgP s.1 s.2 s.2 ≤ 500 then some (boxTo (List.replicate s.2 0) (hiD s.1 s.2 s.2) s.2) else none
/-- the product of the reference, marked when it is beyond the limit -/
def spP (ys : List Int) (b : Nat) : Nat → Int
  | 0 => 1
  | k + 1 => mulV (spP ys b k) (dgX ys b k)
theorem spP_is {b : Nat} {ys : List Int} (h : Piv b b ys) : ∀ {k : Nat}, k ≤ b → (spP ys b k = dgP ys b k ∧ dgP ys b k ≤ 400000000) ∨ (spP ys b k = badN ∧ 400000000 < dgP ys b b)
  | 0, _ => by left; exact ⟨rfl, by simp [dgP]⟩
  | k + 1, hk => by
    have hp := dgP_pos h (k := k) (by omega)
    have hd := h.dg (i := k) (by omega)
    rcases spP_is h (k := k) (by omega) with ⟨h1, h2⟩ | ⟨h1, h2⟩
    · by_cases hl : dgP ys b (k + 1) ≤ 400000000
      · left
        refine ⟨?_, hl⟩
        have hp1 := dgP_pos h hk
        rw [dgP] at hl hp1
        rw [spP, h1, dgP]
        have n1 : dgP ys b k ≠ badN := by unfold badN; omega
        have n2 : dgX ys b k ≠ badN := by unfold badN; omega
        simp only [mulV, n1, n2, false_or, if_false, fitV]
        rw [if_pos (numB_true.2 (by omega))]
      · right
        refine ⟨?_, by have := dgP_le h hk (Nat.le_refl _); omega⟩
        rw [dgP] at hl
        rw [spP, h1]
        have n1 : dgP ys b k ≠ badN := by unfold badN; omega
        have n2 : dgX ys b k ≠ badN := by unfold badN; omega
        simp only [mulV, n1, n2, false_or, if_false, fitV]
        rw [if_neg (fun q => by have := numB_true.1 q; omega)]
    · right
      exact ⟨by rw [spP, h1]; simp [mulV], h2⟩
theorem spP_gb {b : Nat} {ys : List Int} (h : Piv b b ys) {k : Nat} (hk : k ≤ b) : GB (spP ys b k) := by
  rcases spP_is h hk with ⟨h1, h2⟩ | ⟨h1, h2⟩
  · rw [h1]
    have := dgP_pos h hk
    exact .inl ⟨by omega, h2⟩
  · exact .inr h1
theorem spP_end {b : Nat} {ys : List Int} (h : Piv b b ys) : (spP ys b b = -4611686018427387904 ∨ 500 < spP ys b b) ↔ ¬ dgP ys b b ≤ 500 := by
  rcases spP_is h (Nat.le_refl b) with ⟨h1, h2⟩ | ⟨h1, h2⟩
  · rw [h1]
    have := dgP_pos h (Nat.le_refl b)
    omega
  · rw [h1]
    unfold badN
    omega
theorem els_len {r c : Int} {xs : List Int} {L : List (List Int)} (h : elsO r c xs = some L) : L.length ≤ 500 ∧ ∀ v ∈ L, v.length ≤ 24 := by
  unfold elsO at h
  split at h
  · cases h
  · rename_i s hs
    split at h
    · rename_i hg
      cases h
      obtain ⟨a, b, rfl, rfl, ha, hb, hta, htb, hpv⟩ := bas_piv (ys := s.1) (t := s.2) hs
      obtain ⟨ys, t⟩ := s
      dsimp only at hg hpv hta htb ⊢
      obtain rfl : t = b := by omega
      refine ⟨?_, fun v hv => by rw [box_row v hv]; exact hb⟩
      have := (box_len (lo := List.replicate t 0) (hi := hiD ys t t) (fun k hk => by
        rw [List.length_replicate] at hk
        rw [wid_dg hk]; exact (hpv.dg hk).1) t (by rw [List.length_replicate]; exact Nat.le_refl _)).1
      rw [cnt_dg (Nat.le_refl _)] at this
      omega
    · cases h
set_option maxHeartbeats 4000000 in
theorem d_elsI (r c : Int) (xs : List Int) (ca : Nat) (hl : xs.length ≤ 1099511627776) : Does Try.prog 41 [vM r c 1 xs.length ca] [(1, .ro (.ints xs))] 2 (PtsR 22 3 (elsO r c xs) 2) := by
  refine Does.intro TT Try.func41 rfl (by kernel_rfl) rfl rfl fun E hE => ?_
  have hba := d_basI r c xs ca hl
  cases ho : basO r c xs with
  | none =>
    have hR : elsO r c xs = none := by simp [elsO, ho]
    rw [hR]
    rw [ho] at hba
    ((repeat' (first | (refine awpL_step TT rfl rfl rfl sd ?_) | (refine awpL_nil ?_) | (refine awpL_skip rfl rfl ?_) | (refine awpQ_step TT rfl rfl rfl rfl sd ?_) | (refine awpQ_nil ?_) | (refine awpQ_skip rfl rfl ?_) | (refine awp_seq ?_) | (refine awp_region ?_) | ((refine awpL_call (hba) rfl rfl rfl rfl rfl rfl rfl ft rfl ?_); rintro v Hout n1 ⟨rfl, rfl, rfl⟩) | (refine awp_block ?_) | (refine awp_exit ?_) | (refine awp_skip ?_) | (refine awp_ret ?_) | (refine awp_cond_t rfl ?_) | (refine awp_cond_f rfl ?_) | (refine awp_quiet TM rfl (by kernel_rfl) ?_) | ((first | refine awpL_split rfl rfl rfl (fun hc => ?_) (fun hc => ?_) | refine awpQ_split rfl rfl rfl (fun hc => ?_) (fun hc => ?_) | refine awp_cond rfl (fun hc => ?_) (fun hc => ?_)) <;> ((try simp at hc) <;> try contradiction)))) <;> try (exfalso; omega))
    exact fin rfl (by repeat' (first | exact trivial | exact Nat.zero_lt_one | omega | refine ⟨?_, ?_⟩)) [(2, 4)] (.tup [.one (.sl 2 1 0 0 0), .one (.bool false)]) [(2, .own 22 0 (.rows false true []))] 3 (⟨rfl, rfl, rfl⟩) rfl ⟨trivial, ⟨rfl, trivial⟩, rfl⟩ rfl
  | some st =>
    obtain ⟨ys, t⟩ := st
    obtain ⟨a, b, rfl, rfl, ha, hb, hta, htb, hpv⟩ := bas_piv ho
    rw [ho] at hba
    by_cases htc : (t : Int) = b
    · obtain rfl : t = b := by omega
      have hyl := hpv.len
      by_cases hp : dgP ys t t ≤ 500
      · have hR : elsO a t xs = some (boxTo (List.replicate t 0) (hiD ys t t) t) := by simp only [elsO, ho]; rw [if_pos (by exact ⟨trivial, hp⟩)]
        rw [hR]
        ((repeat' (first | (refine awpL_step TT rfl rfl rfl sd ?_) | (refine awpL_nil ?_) | (refine awpL_skip rfl rfl ?_) | (refine awpQ_step TT rfl rfl rfl rfl sd ?_) | (refine awpQ_nil ?_) | (refine awpQ_skip rfl rfl ?_) | (refine awp_seq ?_) | (refine awp_region ?_) | ((refine awpL_call (hba) rfl rfl rfl rfl rfl rfl rfl ft rfl ?_); rintro v Hout n1 ⟨cy, hcy, rfl, rfl, rfl⟩) | (refine awp_block ?_) | (refine awp_exit ?_) | (refine awp_skip ?_) | (refine awp_ret ?_) | (refine awp_cond_t rfl ?_) | (refine awp_cond_f rfl ?_) | (refine awp_quiet TM rfl (by kernel_rfl) ?_) | ((first | refine awpL_split rfl rfl rfl (fun hc => ?_) (fun hc => ?_) | refine awpQ_split rfl rfl rfl (fun hc => ?_) (fun hc => ?_) | refine awp_cond rfl (fun hc => ?_) (fun hc => ?_)) <;> ((try simp at hc) <;> try contradiction)))) <;> try (exfalso; omega))
        refine awp_loop hE (fun x : Nat × Nat => x.1 ≤ t ∧ x.1 ≤ x.2 ∧ dgP ys t x.1 ≤ 500) (fun x => t - x.1)
          (fun x => [(4, .one (.ptr 4 3 0 0)), (6, vS 5 1 0 t t), (7, vS 6 1 0 x.1 x.2), (8, vI (dgP ys t x.1)), (9, vI x.1)])
          (fun x => [(3, .own 3 cy (.ints ys)), (4, .own 27 1 (.lit [.int t, .int t, .sl 3 1 0 ys.length cy])), (5, .own 3 t (.ints (List.replicate t 0))), (6, .own 3 x.2 (.ints (hiD ys t x.1)))]) 7 [] (0, 0) ⟨Nat.zero_le _, Nat.le_refl _, (by dsimp only [dgP]; decide : dgP ys t 0 ≤ 500)⟩ ⟨(by repeat' (first | exact trivial | refine ⟨rfl, ?_⟩ | refine ⟨congrArg some (congrArg vI (by first | omega | (simp; done) | (simp; omega))), ?_⟩ | refine ⟨sl_eqA (by first | omega | (simp; done) | (simp; omega)), ?_⟩)), (by repeat' (first | exact trivial | refine ⟨rfl, ?_⟩)), rfl⟩ ?_
        rintro ⟨i, c1⟩ ⟨hi, hc1, h500⟩
        dsimp only at hi hc1 h500 ⊢
        have hhl := hiD_len (ys := ys) (b := t) (k := i)
        have hpos := dgP_pos hpv hi
        by_cases hit : i < t
        · have hdg := hpv.dg hit
          have hcell := cell_facts hit hit (show t ≤ 24 by omega) hb
          have htt : t * t ≤ 24 * 24 := Nat.mul_le_mul hb hb
          have ecell := cell_nat (p := i) (k := i) (c := t)
          have hd : Does Try.prog 87 [vM t t 1 ys.length cy, vI i, vI i] [(1, .ro (.ints ys))] 2 (Ret (vI (dgX ys t i)) 2) := by
            have := d_at t t i i ys cy (by omega) (by omega) (by omega) (by omega)
            rw [ecell] at this
            exact this
          have hm := mul_bd (A := 500) (B := 400000000) (a := dgP ys t i) (b := dgX ys t i) (by omega) (by omega) (by omega) (by omega)
          have hle : dgP ys t i * dgX ys t i ≤ 500 := Int.le_trans (dgP_le hpv (k := i + 1) hit (Nat.le_refl _)) hp
          ((repeat' (first | (refine awpL_step TT rfl rfl rfl sd ?_) | (refine awpL_nil ?_) | (refine awpL_skip rfl rfl ?_) | (refine awpQ_step TT rfl rfl rfl rfl sd ?_) | (refine awpQ_nil ?_) | (refine awpQ_skip rfl rfl ?_) | (refine awp_seq ?_) | (refine awp_region ?_) | (first | refine awpL_ret (hd) rfl rfl rfl rfl rfl rfl rfl rfl ft rfl rfl ?_ | refine awpQ_ret (hd) rfl rfl rfl rfl rfl rfl rfl rfl ft rfl rfl ?_ | refine awpHop_ret _ (hd) rfl rfl rfl rfl rfl rfl rfl rfl rfl ft rfl rfl sb rfl ?_) | (first | (refine awpL_append TT rfl rfl rfl rfl rfl sd ?_; intro cap hcap) | (refine awpHop_append TT _ rfl rfl rfl rfl rfl rfl sd sb rfl rfl ?_; intro cap hcap)) | (refine awp_block ?_) | (refine awp_exit ?_) | (refine awp_skip ?_) | (refine awp_ret ?_) | (refine awp_cond_t rfl ?_) | (refine awp_cond_f rfl ?_) | (refine awp_quiet TM rfl (by kernel_rfl) ?_) | ((first | refine awpL_split rfl rfl rfl (fun hc => ?_) (fun hc => ?_) | refine awpQ_split rfl rfl rfl (fun hc => ?_) (fun hc => ?_) | refine awp_cond rfl (fun hc => ?_) (fun hc => ?_)) <;> ((try simp at hc) <;> try contradiction)))) <;> try (exfalso; omega))
          all_goals exact ⟨[(6, 8)], (i + 1, cap), ⟨hit, by dsimp only at *; omega, hle⟩, (by first | omega | (dsimp only; omega)), ⟨(by repeat' (first | exact trivial | refine ⟨rfl, ?_⟩ | refine ⟨congrArg some (congrArg vI (by first | omega | (simp; done) | (simp; omega))), ?_⟩ | refine ⟨sl_eqA (by first | omega | (simp; done) | (simp; omega)), ?_⟩)), ⟨rfl, rfl, rfl, own_ints rfl, trivial⟩, rfl⟩⟩
        · obtain rfl : i = t := by omega
          have hbx := d_boxed (List.replicate i 0) (hiD ys i i) i c1 i (by rw [List.length_replicate, hiD_len]) (by rw [List.length_replicate]) (by rw [List.length_replicate]; exact hb) (rep_num (s := 0) (by omega)) (fun n hn => by
            obtain ⟨k, h1, rfl⟩ := hiD_mem hn
            have := hpv.dg h1
            exact numB_true.2 (by omega)) (fun k hk => by
            rw [List.length_replicate] at hk
            rw [wid_dg hk]; exact (hpv.dg hk).1)
          rw [List.length_replicate, box_dg hpv hp] at hbx
          ((repeat' (first | (refine awpL_step TT rfl rfl rfl sd ?_) | (refine awpL_nil ?_) | (refine awpL_skip rfl rfl ?_) | (refine awpQ_step TT rfl rfl rfl rfl sd ?_) | (refine awpQ_nil ?_) | (refine awpQ_skip rfl rfl ?_) | (refine awp_seq ?_) | (refine awp_region ?_) | ((refine awpL_call (hbx) rfl rfl rfl rfl rfl rfl rfl ft rfl ?_); rintro v Hout n1 ⟨l, cap, hlL, rfl, rfl, rfl⟩) | (refine awp_block ?_) | (refine awp_exit ?_) | (refine awp_skip ?_) | (refine awp_ret ?_) | (refine awp_cond_t rfl ?_) | (refine awp_cond_f rfl ?_) | (refine awp_quiet TM rfl (by kernel_rfl) ?_) | ((first | refine awpL_split rfl rfl rfl (fun hc => ?_) (fun hc => ?_) | refine awpQ_split rfl rfl rfl (fun hc => ?_) (fun hc => ?_) | refine awp_cond rfl (fun hc => ?_) (fun hc => ?_)) <;> ((try simp at hc) <;> try contradiction)))) <;> try (exfalso; omega))
          all_goals exact fin rfl (by repeat' (first | exact trivial | exact Nat.zero_lt_one | omega | refine ⟨?_, ?_⟩)) [(2, 7), (3, 8)] (.tup [.one (.sl 2 1 0 l.length cap), .one (.bool true)]) [(2, .own 22 cap (.rows false true l)), (3, .tok 3 false l)] 4 ⟨l, cap, hlL, rfl, rfl, rfl⟩ rfl ⟨trivial, ⟨rfl, rfl, trivial⟩, rfl⟩ rfl
      · have hR : elsO a t xs = none := by simp only [elsO, ho]; rw [if_neg fun h => hp h.2]
        rw [hR]
        ((repeat' (first | (refine awpL_step TT rfl rfl rfl sd ?_) | (refine awpL_nil ?_) | (refine awpL_skip rfl rfl ?_) | (refine awpQ_step TT rfl rfl rfl rfl sd ?_) | (refine awpQ_nil ?_) | (refine awpQ_skip rfl rfl ?_) | (refine awp_seq ?_) | (refine awp_region ?_) | ((refine awpL_call (hba) rfl rfl rfl rfl rfl rfl rfl ft rfl ?_); rintro v Hout n1 ⟨cy, hcy, rfl, rfl, rfl⟩) | (refine awp_block ?_) | (refine awp_exit ?_) | (refine awp_skip ?_) | (refine awp_ret ?_) | (refine awp_cond_t rfl ?_) | (refine awp_cond_f rfl ?_) | (refine awp_quiet TM rfl (by kernel_rfl) ?_) | ((first | refine awpL_split rfl rfl rfl (fun hc => ?_) (fun hc => ?_) | refine awpQ_split rfl rfl rfl (fun hc => ?_) (fun hc => ?_) | refine awp_cond rfl (fun hc => ?_) (fun hc => ?_)) <;> ((try simp at hc) <;> try contradiction)))) <;> try (exfalso; omega))
        refine awp_loop hE (fun x : Nat × Nat => x.1 ≤ t ∧ x.1 ≤ x.2 ∧ dgP ys t x.1 ≤ 500) (fun x => t - x.1)
          (fun x => [(4, .one (.ptr 4 3 0 0)), (6, vS 5 1 0 t t), (7, vS 6 1 0 x.1 x.2), (8, vI (dgP ys t x.1)), (9, vI x.1)])
          (fun x => [(3, .own 3 cy (.ints ys)), (4, .own 27 1 (.lit [.int t, .int t, .sl 3 1 0 ys.length cy])), (5, .own 3 t (.ints (List.replicate t 0))), (6, .own 3 x.2 (.ints (hiD ys t x.1)))]) 7 [] (0, 0) ⟨Nat.zero_le _, Nat.le_refl _, (by dsimp only [dgP]; decide : dgP ys t 0 ≤ 500)⟩ ⟨(by repeat' (first | exact trivial | refine ⟨rfl, ?_⟩ | refine ⟨congrArg some (congrArg vI (by first | omega | (simp; done) | (simp; omega))), ?_⟩ | refine ⟨sl_eqA (by first | omega | (simp; done) | (simp; omega)), ?_⟩)), (by repeat' (first | exact trivial | refine ⟨rfl, ?_⟩)), rfl⟩ ?_
        rintro ⟨i, c1⟩ ⟨hi, hc1, h500⟩
        dsimp only at hi hc1 h500 ⊢
        have hhl := hiD_len (ys := ys) (b := t) (k := i)
        have hpos := dgP_pos hpv hi
        by_cases hit : i < t
        · have hdg := hpv.dg hit
          have hcell := cell_facts hit hit (show t ≤ 24 by omega) hb
          have htt : t * t ≤ 24 * 24 := Nat.mul_le_mul hb hb
          have ecell := cell_nat (p := i) (k := i) (c := t)
          have hd : Does Try.prog 87 [vM t t 1 ys.length cy, vI i, vI i] [(1, .ro (.ints ys))] 2 (Ret (vI (dgX ys t i)) 2) := by
            have := d_at t t i i ys cy (by omega) (by omega) (by omega) (by omega)
            rw [ecell] at this
            exact this
          have hm := mul_bd (A := 500) (B := 400000000) (a := dgP ys t i) (b := dgX ys t i) (by omega) (by omega) (by omega) (by omega)
          by_cases hle : dgP ys t i * dgX ys t i ≤ 500
          · ((repeat' (first | (refine awpL_step TT rfl rfl rfl sd ?_) | (refine awpL_nil ?_) | (refine awpL_skip rfl rfl ?_) | (refine awpQ_step TT rfl rfl rfl rfl sd ?_) | (refine awpQ_nil ?_) | (refine awpQ_skip rfl rfl ?_) | (refine awp_seq ?_) | (refine awp_region ?_) | (first | refine awpL_ret (hd) rfl rfl rfl rfl rfl rfl rfl rfl ft rfl rfl ?_ | refine awpQ_ret (hd) rfl rfl rfl rfl rfl rfl rfl rfl ft rfl rfl ?_ | refine awpHop_ret _ (hd) rfl rfl rfl rfl rfl rfl rfl rfl rfl ft rfl rfl sb rfl ?_) | (first | (refine awpL_append TT rfl rfl rfl rfl rfl sd ?_; intro cap hcap) | (refine awpHop_append TT _ rfl rfl rfl rfl rfl rfl sd sb rfl rfl ?_; intro cap hcap)) | (refine awp_block ?_) | (refine awp_exit ?_) | (refine awp_skip ?_) | (refine awp_ret ?_) | (refine awp_cond_t rfl ?_) | (refine awp_cond_f rfl ?_) | (refine awp_quiet TM rfl (by kernel_rfl) ?_) | ((first | refine awpL_split rfl rfl rfl (fun hc => ?_) (fun hc => ?_) | refine awpQ_split rfl rfl rfl (fun hc => ?_) (fun hc => ?_) | refine awp_cond rfl (fun hc => ?_) (fun hc => ?_)) <;> ((try simp at hc) <;> try contradiction)))) <;> try (exfalso; omega))
            all_goals exact ⟨[(6, 8)], (i + 1, cap), ⟨hit, by dsimp only at *; omega, hle⟩, (by first | omega | (dsimp only; omega)), ⟨(by repeat' (first | exact trivial | refine ⟨rfl, ?_⟩ | refine ⟨congrArg some (congrArg vI (by first | omega | (simp; done) | (simp; omega))), ?_⟩ | refine ⟨sl_eqA (by first | omega | (simp; done) | (simp; omega)), ?_⟩)), ⟨rfl, rfl, rfl, own_ints rfl, trivial⟩, rfl⟩⟩
          · ((repeat' (first | (refine awpL_step TT rfl rfl rfl sd ?_) | (refine awpL_nil ?_) | (refine awpL_skip rfl rfl ?_) | (refine awpQ_step TT rfl rfl rfl rfl sd ?_) | (refine awpQ_nil ?_) | (refine awpQ_skip rfl rfl ?_) | (refine awp_seq ?_) | (refine awp_region ?_) | (first | refine awpL_ret (hd) rfl rfl rfl rfl rfl rfl rfl rfl ft rfl rfl ?_ | refine awpQ_ret (hd) rfl rfl rfl rfl rfl rfl rfl rfl ft rfl rfl ?_ | refine awpHop_ret _ (hd) rfl rfl rfl rfl rfl rfl rfl rfl rfl ft rfl rfl sb rfl ?_) | (first | (refine awpL_append TT rfl rfl rfl rfl rfl sd ?_; intro cap hcap) | (refine awpHop_append TT _ rfl rfl rfl rfl rfl rfl sd sb rfl rfl ?_; intro cap hcap)) | (refine awp_block ?_) | (refine awp_exit ?_) | (refine awp_skip ?_) | (refine awp_ret ?_) | (refine awp_cond_t rfl ?_) | (refine awp_cond_f rfl ?_) | (refine awp_quiet TM rfl (by kernel_rfl) ?_) | ((first | refine awpL_split rfl rfl rfl (fun hc => ?_) (fun hc => ?_) | refine awpQ_split rfl rfl rfl (fun hc => ?_) (fun hc => ?_) | refine awp_cond rfl (fun hc => ?_) (fun hc => ?_)) <;> ((try simp at hc) <;> try contradiction)))) <;> try (exfalso; omega))
            all_goals exact fin rfl (by repeat' (first | exact trivial | exact Nat.zero_lt_one | omega | refine ⟨?_, ?_⟩)) [(2, 9)] (.tup [.one (.sl 2 1 0 0 0), .one (.bool false)]) [(2, .own 22 0 (.rows false true []))] 3 (⟨rfl, rfl, rfl⟩) rfl ⟨trivial, ⟨rfl, trivial⟩, rfl⟩ rfl
        · obtain rfl : i = t := by omega
          exact absurd h500 hp
    · have hR : elsO a b xs = none := by simp only [elsO, ho]; rw [if_neg fun h => htc h.1]
      rw [hR]
      ((repeat' (first | (refine awpL_step TT rfl rfl rfl sd ?_) | (refine awpL_nil ?_) | (refine awpL_skip rfl rfl ?_) | (refine awpQ_step TT rfl rfl rfl rfl sd ?_) | (refine awpQ_nil ?_) | (refine awpQ_skip rfl rfl ?_) | (refine awp_seq ?_) | (refine awp_region ?_) | ((refine awpL_call (hba) rfl rfl rfl rfl rfl rfl rfl ft rfl ?_); rintro v Hout n1 ⟨cy, hcy, rfl, rfl, rfl⟩) | (refine awp_block ?_) | (refine awp_exit ?_) | (refine awp_skip ?_) | (refine awp_ret ?_) | (refine awp_cond_t rfl ?_) | (refine awp_cond_f rfl ?_) | (refine awp_quiet TM rfl (by kernel_rfl) ?_) | ((first | refine awpL_split rfl rfl rfl (fun hc => ?_) (fun hc => ?_) | refine awpQ_split rfl rfl rfl (fun hc => ?_) (fun hc => ?_) | refine awp_cond rfl (fun hc => ?_) (fun hc => ?_)) <;> ((try simp at hc) <;> try contradiction)))) <;> try (exfalso; omega))
      all_goals exact fin rfl (by repeat' (first | exact trivial | exact Nat.zero_lt_one | omega | refine ⟨?_, ?_⟩)) [(2, 5)] (.tup [.one (.sl 2 1 0 0 0), .one (.bool false)]) [(2, .own 22 0 (.rows false true []))] 3 (⟨rfl, rfl, rfl⟩) rfl ⟨trivial, ⟨rfl, trivial⟩, rfl⟩ rfl
set_option maxHeartbeats 4000000 in
theorem d_elsS (r c : Int) (xs : List Int) (ca : Nat) (hl : xs.length ≤ 1099511627776) : Does Try.prog 40 [vM r c 1 xs.length ca] [(1, .ro (.ints xs))] 2 (PtsR 22 3 (elsO r c xs) 2) := by
  refine Does.intro TT Try.func40 rfl (by kernel_rfl) rfl rfl fun E hE => ?_
  have hba := d_basS r c xs ca hl
  cases ho : basO r c xs with
  | none =>
    have hR : elsO r c xs = none := by simp [elsO, ho]
    rw [hR]
    rw [ho] at hba
    ((repeat' (first | (refine awpL_step TT rfl rfl rfl sd ?_) | (refine awpL_nil ?_) | (refine awpL_skip rfl rfl ?_) | (refine awpQ_step TT rfl rfl rfl rfl sd ?_) | (refine awpQ_nil ?_) | (refine awpQ_skip rfl rfl ?_) | (refine awp_seq ?_) | (refine awp_region ?_) | ((refine awpL_call (hba) rfl rfl rfl rfl rfl rfl rfl ft rfl ?_); rintro v Hout n1 ⟨rfl, rfl, rfl⟩) | (refine awp_block ?_) | (refine awp_exit ?_) | (refine awp_skip ?_) | (refine awp_ret ?_) | (refine awp_cond_t rfl ?_) | (refine awp_cond_f rfl ?_) | (refine awp_quiet TM rfl (by kernel_rfl) ?_) | ((first | refine awpL_split rfl rfl rfl (fun hc => ?_) (fun hc => ?_) | refine awpQ_split rfl rfl rfl (fun hc => ?_) (fun hc => ?_) | refine awp_cond rfl (fun hc => ?_) (fun hc => ?_)) <;> ((try simp at hc) <;> try contradiction)))) <;> try (exfalso; omega))
    exact fin rfl (by repeat' (first | exact trivial | exact Nat.zero_lt_one | omega | refine ⟨?_, ?_⟩)) [(2, 4)] (.tup [.one (.sl 2 1 0 0 0), .one (.bool false)]) [(2, .own 22 0 (.rows false true []))] 3 (⟨rfl, rfl, rfl⟩) rfl ⟨trivial, ⟨rfl, trivial⟩, rfl⟩ rfl
  | some st =>
    obtain ⟨ys, t⟩ := st
    obtain ⟨a, b, rfl, rfl, ha, hb, hta, htb, hpv⟩ := bas_piv ho
    rw [ho] at hba
    by_cases htc : (t : Int) = b
    · obtain rfl : t = b := by omega
      have hyl := hpv.len
      ((repeat' (first | (refine awpL_step TT rfl rfl rfl sd ?_) | (refine awpL_nil ?_) | (refine awpL_skip rfl rfl ?_) | (refine awpQ_step TT rfl rfl rfl rfl sd ?_) | (refine awpQ_nil ?_) | (refine awpQ_skip rfl rfl ?_) | (refine awp_seq ?_) | (refine awp_region ?_) | ((refine awpL_call (hba) rfl rfl rfl rfl rfl rfl rfl ft rfl ?_); rintro v Hout n1 ⟨cy, hcy, rfl, rfl, rfl⟩) | (refine awp_block ?_) | (refine awp_exit ?_) | (refine awp_skip ?_) | (refine awp_ret ?_) | (refine awp_cond_t rfl ?_) | (refine awp_cond_f rfl ?_) | (refine awp_quiet TM rfl (by kernel_rfl) ?_) | ((first | refine awpL_split rfl rfl rfl (fun hc => ?_) (fun hc => ?_) | refine awpQ_split rfl rfl rfl (fun hc => ?_) (fun hc => ?_) | refine awp_cond rfl (fun hc => ?_) (fun hc => ?_)) <;> ((try simp at hc) <;> try contradiction)))) <;> try (exfalso; omega))
      refine awp_loop hE (fun x : Nat × Nat × Nat => x.1 ≤ t ∧ x.1 ≤ x.2.1 ∧ x.1 ≤ x.2.2) (fun x => t - x.1)
        (fun x => [(4, .one (.ptr 4 3 0 0)), (6, vI (spP ys t x.1)), (7, vS 5 1 0 x.1 x.2.1), (8, vS 6 1 0 x.1 x.2.2), (9, vI x.1)])
        (fun x => [(3, .own 3 cy (.ints ys)), (4, .own 27 1 (.lit [.int t, .int t, .sl 3 1 0 ys.length cy])), (5, .own 3 x.2.1 (.ints (List.replicate x.1 0))), (6, .own 3 x.2.2 (.ints (hiD ys t x.1)))]) 7 [] (0, 0, 0) ⟨Nat.zero_le _, Nat.le_refl _, Nat.le_refl _⟩ ⟨(by repeat' (first | exact trivial | refine ⟨rfl, ?_⟩ | refine ⟨congrArg some (congrArg vI (by first | omega | (simp; done) | (simp; omega))), ?_⟩ | refine ⟨sl_eqA (by first | omega | (simp; done) | (simp; omega)), ?_⟩)), (by repeat' (first | exact trivial | refine ⟨rfl, ?_⟩)), rfl⟩ ?_
      rintro ⟨i, c1, c2⟩ ⟨hi, hc1, hc2⟩
      dsimp only at hi hc1 hc2 ⊢
      have hhl := hiD_len (ys := ys) (b := t) (k := i)
      by_cases hit : i < t
      · have hdg := hpv.dg hit
        have hd : Does Try.prog 67 [vM t t 1 ys.length cy, vI i, vI i] [(1, .ro (.ints ys))] 2 (Ret (vI (dgX ys t i)) 2) := d_cellH t t i i ys.length cy ys rfl hyl hb hb hit hit
        have hmu := d_mulV (spP ys t i) (dgX ys t i) (spP_gb hpv hi) (.inl (by omega))
        ((repeat' (first | (refine awpL_step TT rfl rfl rfl sd ?_) | (refine awpL_nil ?_) | (refine awpL_skip rfl rfl ?_) | (refine awpQ_step TT rfl rfl rfl rfl sd ?_) | (refine awpQ_nil ?_) | (refine awpQ_skip rfl rfl ?_) | (refine awp_seq ?_) | (refine awp_region ?_) | (first | refine awpL_ret (hd) rfl rfl rfl rfl rfl rfl rfl rfl ft rfl rfl ?_ | refine awpQ_ret (hd) rfl rfl rfl rfl rfl rfl rfl rfl ft rfl rfl ?_ | refine awpHop_ret _ (hd) rfl rfl rfl rfl rfl rfl rfl rfl rfl ft rfl rfl sb rfl ?_) | (first | refine awpL_ret (hmu) rfl rfl rfl rfl rfl rfl rfl rfl ft rfl rfl ?_ | refine awpQ_ret (hmu) rfl rfl rfl rfl rfl rfl rfl rfl ft rfl rfl ?_ | refine awpHop_ret _ (hmu) rfl rfl rfl rfl rfl rfl rfl rfl rfl ft rfl rfl sb rfl ?_) | (first | (refine awpL_append TT rfl rfl rfl rfl rfl sd ?_; intro cap hcap) | (refine awpHop_append TT _ rfl rfl rfl rfl rfl rfl sd sb rfl rfl ?_; intro cap hcap)) | (refine awp_block ?_) | (refine awp_exit ?_) | (refine awp_skip ?_) | (refine awp_ret ?_) | (refine awp_cond_t rfl ?_) | (refine awp_cond_f rfl ?_) | (refine awp_quiet TM rfl (by kernel_rfl) ?_) | ((first | refine awpL_split rfl rfl rfl (fun hc => ?_) (fun hc => ?_) | refine awpQ_split rfl rfl rfl (fun hc => ?_) (fun hc => ?_) | refine awp_cond rfl (fun hc => ?_) (fun hc => ?_)) <;> ((try simp at hc) <;> try contradiction)))) <;> try (exfalso; omega))
        all_goals rename_i cap1 hcap1
        all_goals exact ⟨[(5, 8), (6, 10)], (i + 1, cap1, cap), ⟨hit, by simp at *; omega, by dsimp only at *; omega⟩, (by first | omega | (dsimp only; omega)), ⟨(by repeat' (first | exact trivial | refine ⟨rfl, ?_⟩ | refine ⟨congrArg some (congrArg vI (by first | omega | (simp; done) | (simp; omega))), ?_⟩ | refine ⟨sl_eqA (by first | omega | (simp; done) | (simp; omega)), ?_⟩)), ⟨rfl, rfl, own_ints (by simp [List.replicate_succ']), own_ints rfl, trivial⟩, rfl⟩⟩
      · obtain rfl : i = t := by omega
        have hend := spP_end hpv
        by_cases hp : dgP ys i i ≤ 500
        · have hR : elsO a i xs = some (boxTo (List.replicate i 0) (hiD ys i i) i) := by simp only [elsO, ho]; rw [if_pos (by exact ⟨trivial, hp⟩)]
          have hn : ¬ (spP ys i i = -4611686018427387904 ∨ 500 < spP ys i i) := fun h => hend.1 h hp
          have hbx := d_boxS (List.replicate i 0) (hiD ys i i) c1 c2 i (by rw [List.length_replicate, hiD_len]) (by rw [List.length_replicate]) (by rw [List.length_replicate]; exact hb) (rep_num (s := 0) (by omega)) (fun n hn => by
            obtain ⟨k, h1, rfl⟩ := hiD_mem hn
            have := hpv.dg h1
            exact numB_true.2 (by omega)) (fun k hk => by
            rw [List.length_replicate] at hk
            rw [wid_dg hk]; exact (hpv.dg hk).1)
          rw [List.length_replicate, box_dg hpv hp] at hbx
          rw [hR]
          ((repeat' (first | (refine awpL_step TT rfl rfl rfl sd ?_) | (refine awpL_nil ?_) | (refine awpL_skip rfl rfl ?_) | (refine awpQ_step TT rfl rfl rfl rfl sd ?_) | (refine awpQ_nil ?_) | (refine awpQ_skip rfl rfl ?_) | (refine awp_seq ?_) | (refine awp_region ?_) | ((refine awpL_call (hbx) rfl rfl rfl rfl rfl rfl rfl ft rfl ?_); rintro v Hout n1 ⟨l, cap, hlL, rfl, rfl, rfl⟩) | (refine awp_block ?_) | (refine awp_exit ?_) | (refine awp_skip ?_) | (refine awp_ret ?_) | (refine awp_cond_t rfl ?_) | (refine awp_cond_f rfl ?_) | (refine awp_quiet TM rfl (by kernel_rfl) ?_) | ((first | refine awpL_split rfl rfl rfl (fun hc => ?_) (fun hc => ?_) | refine awpQ_split rfl rfl rfl (fun hc => ?_) (fun hc => ?_) | refine awp_cond rfl (fun hc => ?_) (fun hc => ?_)) <;> ((try simp at hc) <;> try contradiction)))) <;> try (exfalso; omega))
          all_goals exact fin rfl (by repeat' (first | exact trivial | exact Nat.zero_lt_one | omega | refine ⟨?_, ?_⟩)) [(2, 7), (3, 8)] (.tup [.one (.sl 2 1 0 l.length cap), .one (.bool true)]) [(2, .own 22 cap (.rows false true l)), (3, .tok 3 false l)] 4 ⟨l, cap, hlL, rfl, rfl, rfl⟩ rfl ⟨trivial, ⟨rfl, rfl, trivial⟩, rfl⟩ rfl
        · have hR : elsO a i xs = none := by simp only [elsO, ho]; rw [if_neg fun h => hp h.2]
          rw [hR]
          rcases hend.2 hp with h | h
          · ((repeat' (first | (refine awpL_step TT rfl rfl rfl sd ?_) | (refine awpL_nil ?_) | (refine awpL_skip rfl rfl ?_) | (refine awpQ_step TT rfl rfl rfl rfl sd ?_) | (refine awpQ_nil ?_) | (refine awpQ_skip rfl rfl ?_) | (refine awp_seq ?_) | (refine awp_region ?_) | (refine awp_block ?_) | (refine awp_exit ?_) | (refine awp_skip ?_) | (refine awp_ret ?_) | (refine awp_cond_t rfl ?_) | (refine awp_cond_f rfl ?_) | (refine awp_quiet TM rfl (by kernel_rfl) ?_) | ((first | refine awpL_split rfl rfl rfl (fun hc => ?_) (fun hc => ?_) | refine awpQ_split rfl rfl rfl (fun hc => ?_) (fun hc => ?_) | refine awp_cond rfl (fun hc => ?_) (fun hc => ?_)) <;> ((try simp at hc) <;> try contradiction)))) <;> try (exfalso; omega))
            all_goals exact fin rfl (by repeat' (first | exact trivial | exact Nat.zero_lt_one | omega | refine ⟨?_, ?_⟩)) [(2, 7)] (.tup [.one (.sl 2 1 0 0 0), .one (.bool false)]) [(2, .own 22 0 (.rows false true []))] 3 (⟨rfl, rfl, rfl⟩) rfl ⟨trivial, ⟨rfl, trivial⟩, rfl⟩ rfl
          · ((repeat' (first | (refine awpL_step TT rfl rfl rfl sd ?_) | (refine awpL_nil ?_) | (refine awpL_skip rfl rfl ?_) | (refine awpQ_step TT rfl rfl rfl rfl sd ?_) | (refine awpQ_nil ?_) | (refine awpQ_skip rfl rfl ?_) | (refine awp_seq ?_) | (refine awp_region ?_) | (refine awp_block ?_) | (refine awp_exit ?_) | (refine awp_skip ?_) | (refine awp_ret ?_) | (refine awp_cond_t rfl ?_) | (refine awp_cond_f rfl ?_) | (refine awp_quiet TM rfl (by kernel_rfl) ?_) | ((first | refine awpL_split rfl rfl rfl (fun hc => ?_) (fun hc => ?_) | refine awpQ_split rfl rfl rfl (fun hc => ?_) (fun hc => ?_) | refine awp_cond rfl (fun hc => ?_) (fun hc => ?_)) <;> ((try simp at hc) <;> try contradiction)))) <;> try (exfalso; omega))
            all_goals exact fin rfl (by repeat' (first | exact trivial | exact Nat.zero_lt_one | omega | refine ⟨?_, ?_⟩)) [(2, 7)] (.tup [.one (.sl 2 1 0 0 0), .one (.bool false)]) [(2, .own 22 0 (.rows false true []))] 3 (⟨rfl, rfl, rfl⟩) rfl ⟨trivial, ⟨rfl, trivial⟩, rfl⟩ rfl
    · have hR : elsO a b xs = none := by simp only [elsO, ho]; rw [if_neg fun h => htc h.1]
      rw [hR]
      ((repeat' (first | (refine awpL_step TT rfl rfl rfl sd ?_) | (refine awpL_nil ?_) | (refine awpL_skip rfl rfl ?_) | (refine awpQ_step TT rfl rfl rfl rfl sd ?_) | (refine awpQ_nil ?_) | (refine awpQ_skip rfl rfl ?_) | (refine awp_seq ?_) | (refine awp_region ?_) | ((refine awpL_call (hba) rfl rfl rfl rfl rfl rfl rfl ft rfl ?_); rintro v Hout n1 ⟨cy, hcy, rfl, rfl, rfl⟩) | (refine awp_block ?_) | (refine awp_exit ?_) | (refine awp_skip ?_) | (refine awp_ret ?_) | (refine awp_cond_t rfl ?_) | (refine awp_cond_f rfl ?_) | (refine awp_quiet TM rfl (by kernel_rfl) ?_) | ((first | refine awpL_split rfl rfl rfl (fun hc => ?_) (fun hc => ?_) | refine awpQ_split rfl rfl rfl (fun hc => ?_) (fun hc => ?_) | refine awp_cond rfl (fun hc => ?_) (fun hc => ?_)) <;> ((try simp at hc) <;> try contradiction)))) <;> try (exfalso; omega))
      all_goals exact fin rfl (by repeat' (first | exact trivial | exact Nat.zero_lt_one | omega | refine ⟨?_, ?_⟩)) [(2, 5)] (.tup [.one (.sl 2 1 0 0 0), .one (.bool false)]) [(2, .own 22 0 (.rows false true []))] 3 (⟨rfl, rfl, rfl⟩) rfl ⟨trivial, ⟨rfl, trivial⟩, rfl⟩ rfl
end Go.Proofs.Ytmkoifmokdmebaa
