/-
  TEXTS OF THE PROOF, put together: bHBox, bHBoxLaw.
-/
import Derived.Test.YtfkbjkmlpinoeaaGreatM38
import Derived.Test.YtfkbjkmlpinoeaaGreatM34
set_option linter.unusedVariables false
set_option linter.unusedSimpArgs false
/-
  CONTRACTS: HilbertBox of both packages.
-/
namespace Go.Proofs.YtfkbjkmlpinoeaaGreat
open Go.RowKit

def SlB (t : TypeId) (zs : List Int) (ok : Bool) (k : Nat) (v : AV) (Hout : List (Nat × Blk)) (n1 : Nat) : Prop := ∃ cap, zs.length ≤ cap ∧ v = .tup [.one (.sl k 1 0 zs.length cap), .one (.bool ok)] ∧ Hout = [(k, .own t cap (.ints zs))] ∧ n1 = k + 1
theorem SlB.out {t : TypeId} {zs : List Int} {ok : Bool} {k : Nat} : ∀ v Hout n1, SlB t zs ok k v Hout n1 → ∃ b, Hout = [(k, b)] ∧ n1 = k + 1 ∧ b.keys = [] := fun _ _ _ ⟨_, _, _, h2, h3⟩ => ⟨_, h2, h3, by simp [Blk.keys, Elts.keys, Elts.all, ints_keys]⟩
def SlO (t : TypeId) (o : Option (List Int)) (k : Nat) (v : AV) (Hout : List (Nat × Blk)) (n1 : Nat) : Prop := match o with
  | none => SlB t [] false k v Hout n1
  | some zs => SlB t zs true k v Hout n1
/-- the absolute values of the first i rows' cells in column k, added up -/
def colA (ys : List Int) (c k : Nat) : Nat → Int
  | 0 => 0
  | i + 1 => colA ys c k i + ((ys.getD (i * c + k) 0).natAbs : Int)
theorem colA_bd {ys : List Int} {c k : Nat} (h : ys.all numB = true) : ∀ i, 0 ≤ colA ys c k i ∧ colA ys c k i ≤ 400000000 * (i : Int)
  | 0 => by simp [colA]
  | i + 1 => by
    have ih := colA_bd (c := c) (k := k) h i
    have := num_getD h (i * c + k)
    rw [colA]; omega
/-- c numbers, those before j one step further -/
def genT (f : Nat → Nat → Int) (c i j : Nat) : List Int := (List.range c).map fun k => f k (if k < j then i + 1 else i)
theorem genT_len {f : Nat → Nat → Int} {c i j : Nat} : (genT f c i j).length = c := by simp [genT]
theorem genT_at {f : Nat → Nat → Int} {c i j : Nat} (hj : j < c) : (genT f c i j).getD j 0 = f j i := by simp [genT, hj]
theorem genT_set {f : Nat → Nat → Int} {c i j : Nat} (hj : j < c) : (genT f c i j).set j (f j (i + 1)) = genT f c i (j + 1) := by
  apply List.ext_getElem (by simp [genT])
  intro p h1 h2
  rw [List.getElem_set]
  simp only [genT, List.getElem_map, List.getElem_range]
  by_cases cc : j = p
  · subst cc
    rw [if_pos rfl, if_pos (Nat.lt_succ_self j)]
  · rw [if_neg cc]
    by_cases c2 : p < j
    · rw [if_pos c2, if_pos (by omega)]
    · rw [if_neg c2, if_neg (by omega)]
theorem genT_next {f : Nat → Nat → Int} {c i : Nat} : genT f c i c = genT f c (i + 1) 0 := by
  apply List.ext_getElem (by simp [genT])
  intro p h1 h2
  have : p < c := by rw [genT_len] at h1; exact h1
  simp [genT, this]
theorem genT_zero {f : Nat → Nat → Int} {c : Nat} (h : ∀ k, f k 0 = 0) : List.replicate c 0 = genT f c 0 0 := by
  apply List.ext_getElem (by simp [genT])
  intro p h1 h2
  simp [genT, h]
def colB (ys : List Int) (c t : Nat) : List Int := genT (colA ys c) c t 0
def hboxB (r c : Int) (xs : List Int) : Option (List Int) := match raysB r c xs with
  | none => none
  | some s => if (colB s.1 c.toNat s.2).all numB then some (colB s.1 c.toNat s.2) else none
theorem raysB_dims {r c : Int} {xs : List Int} {s : List Int × Nat} (h : raysB r c xs = some s) : ∃ b : Nat, c = b ∧ 1 ≤ b ∧ b ≤ 3 ∧ s.2 ≤ 24 ∧ s.1.length = s.2 * b ∧ s.1.all numB = true := by
  rw [raysB, Option.map_eq_some_iff] at h
  obtain ⟨L, h1, rfl⟩ := h
  obtain ⟨a, b, raw, rfl, rfl, ha, hb1, hb, hx, hnum, hC, hp, -, -⟩ := raysO_some h1
  obtain ⟨e1, e2⟩ := raysO_row h1
  exact ⟨b, rfl, hb1, hb, e1, flat_len_le fun v hv => by have := (e2 v hv).1; omega, flat_num fun v hv => (e2 v hv).2⟩
set_option maxRecDepth 100000 in
set_option maxHeartbeats 4000000 in
theorem d_hboxI (r c : Int) (xs : List Int) (ca : Nat) (hl : xs.length ≤ 1099511627776) (hca : xs.length ≤ ca) : Does Tryz.prog 33 [vM r c 1 xs.length ca] [(1, .ro (.ints xs))] 2 (SlO 3 (hboxB r c xs) 2) := by
  have hr := d_raysI r c xs ca hl hca
  refine Does.intro TT Tryz.func33 rfl (by kernel_rfl) rfl rfl fun E hE => ?_
  unfold hboxB
  cases hB : raysB r c xs with
  | none =>
    rw [hB] at hr
    ((repeat' (first | refine w_a TT rfl rfl rfl sd ?_ | refine w_b ?_ | refine w_c rfl rfl ?_ | refine w_d TT rfl rfl rfl rfl sd ?_ | refine w_e ?_ | refine w_f rfl rfl ?_ | refine w_g ?_ | refine w_h ?_ | ((refine w_E (hr) rfl rfl rfl rfl rfl rfl rfl ft rfl ?_); rintro v Hout n1 ⟨rfl, rfl, rfl⟩) | refine w_i ?_ | refine w_j ?_ | refine w_k ?_ | refine w_l ?_ | refine w_m rfl ?_ | refine w_n rfl ?_ | refine w_o TM rfl kr ?_ | ((first | refine w_p rfl rfl rfl (fun hc => ?_) (fun hc => ?_) | refine w_q rfl rfl rfl (fun hc => ?_) (fun hc => ?_) | refine w_r rfl (fun hc => ?_) (fun hc => ?_)) <;> ((try simp at hc) <;> try contradiction)))) <;> try (exfalso; omega))
    exact fin rfl w_3 [(2, 4)] (.tup [.one (.sl 2 1 0 0 0), .one (.bool false)]) [(2, .own 3 0 (.ints []))] 3 ⟨0, Nat.zero_le _, rfl, rfl, rfl⟩ rfl ⟨trivial, ⟨rfl, trivial⟩, rfl⟩ rfl
  | some s =>
    rw [hB] at hr
    obtain ⟨b, rfl, hb1, hb, ht, hyl, hyn⟩ := raysB_dims hB
    obtain ⟨ys, t⟩ := s
    dsimp only at ht hyl hyn ⊢
    simp only [Int.toNat_natCast]
    have hbd := fun k i => colA_bd (c := b) (k := k) hyn i
    ((repeat' (first | refine w_a TT rfl rfl rfl sd ?_ | refine w_b ?_ | refine w_c rfl rfl ?_ | refine w_d TT rfl rfl rfl rfl sd ?_ | refine w_e ?_ | refine w_f rfl rfl ?_ | refine w_g ?_ | refine w_h ?_ | ((refine w_E (hr) rfl rfl rfl rfl rfl rfl rfl ft rfl ?_); rintro v Hout n1 ⟨capy, hcapy, rfl, rfl, rfl⟩) | refine w_i ?_ | refine w_j ?_ | refine w_k ?_ | refine w_l ?_ | refine w_m rfl ?_ | refine w_n rfl ?_ | refine w_o TM rfl kr ?_ | ((first | refine w_p rfl rfl rfl (fun hc => ?_) (fun hc => ?_) | refine w_q rfl rfl rfl (fun hc => ?_) (fun hc => ?_) | refine w_r rfl (fun hc => ?_) (fun hc => ?_)) <;> ((try simp at hc) <;> try contradiction)))) <;> try (exfalso; omega))
    dsimp only at hcapy
    refine w_G hE (fun i : Nat => i ≤ t) (fun i => t - i)
      (fun i => [(1, .one (.ptr 2 3 0 0)), (4, .one (.ptr 4 3 0 0)), (6, vS 5 1 0 b b), (7, vI i)])
      (fun i => [(1, .ro (.ints xs)), (2, .own 26 1 (.lit [.int r, .int b, .sl 1 1 0 xs.length ca])), (3, .own 3 capy (.ints ys)), (4, .own 26 1 (.lit [.int t, .int b, .sl 3 1 0 ys.length capy])), (5, .own 3 b (.ints (genT (colA ys b) b i 0)))]) 6 [] 0 (Nat.zero_le _) ⟨w_1, ⟨rfl, rfl, rfl, rfl, own_ints (genT_zero fun _ => rfl), trivial⟩, rfl⟩ ?_
    intro i hi
    by_cases hit : i < t
    · have hin := row_in (c := b) hit
      have hkn : ¬ t ≤ i := by omega
      ((repeat' (first | refine w_a TT rfl rfl rfl sd ?_ | refine w_b ?_ | refine w_c rfl rfl ?_ | refine w_d TT rfl rfl rfl rfl sd ?_ | refine w_e ?_ | refine w_f rfl rfl ?_ | refine w_g ?_ | refine w_h ?_ | ((refine w_E (d_rowAt t b i ys.length capy ys rfl hyl hcapy (by omega) (by omega) hit) rfl rfl rfl rfl rfl rfl rfl ft rfl ?_); rintro v Hout n1 ⟨cp, rfl, rfl, rfl⟩) | refine w_i ?_ | refine w_j ?_ | refine w_k ?_ | refine w_l ?_ | refine w_m rfl ?_ | refine w_n rfl ?_ | refine w_o TM rfl kr ?_ | ((first | refine w_p rfl rfl rfl (fun hc => ?_) (fun hc => ?_) | refine w_q rfl rfl rfl (fun hc => ?_) (fun hc => ?_) | refine w_r rfl (fun hc => ?_) (fun hc => ?_)) <;> ((try simp at hc) <;> try contradiction)))) <;> try (exfalso; omega))
      refine w_G hE (fun j : Nat => j ≤ b) (fun j => b - j)
        (fun j => [(1, .one (.ptr 2 3 0 0)), (4, .one (.ptr 4 3 0 0)), (6, vS 5 1 0 b b), (7, vI i), (29, vS 3 1 (i * b) b cp), (30, vI b), (31, vI j)])
        (fun j => [(1, .ro (.ints xs)), (2, .own 26 1 (.lit [.int r, .int b, .sl 1 1 0 xs.length ca])), (3, .own 3 capy (.ints ys)), (4, .own 26 1 (.lit [.int t, .int b, .sl 3 1 0 ys.length capy])), (5, .own 3 b (.ints (genT (colA ys b) b i j)))]) 6 [] 0 (Nat.zero_le _) ⟨w_1, w_2, rfl⟩ ?_
      intro j hj
      have hgl := genT_len (f := colA ys b) (c := b) (i := i) (j := j)
      by_cases hjb : j < b
      · have hy := num_getD hyn (i * b + (j : Int).toNat)
        have hy2 := num_getD hyn (i * b + j)
        have hg := genT_at (f := colA ys b) (i := i) hjb
        have hg2 : (genT (colA ys b) b i j).getD (0 + (j : Int).toNat) 0 = colA ys b j i := by rw [show 0 + (j : Int).toNat = j by omega]; exact hg
        have hbj := hbd j i
        have hbj2 := hbj
        rw [← hg2] at hbj2
        have hbj3 := hbj
        rw [← hg] at hbj3
        simp only [List.getD_eq_getElem?_getD] at hbj3
        have hse := genT_set (f := colA ys b) (i := i) hjb
        ((repeat' (first | refine w_a TT rfl rfl rfl sd ?_ | refine w_b ?_ | refine w_c rfl rfl ?_ | refine w_d TT rfl rfl rfl rfl sd ?_ | refine w_e ?_ | refine w_f rfl rfl ?_ | refine w_g ?_ | refine w_h ?_ | refine w_i ?_ | refine w_j ?_ | refine w_k ?_ | refine w_l ?_ | refine w_m rfl ?_ | refine w_n rfl ?_ | ((first | refine w_p rfl rfl rfl (fun hc => ?_) (fun hc => ?_) | refine w_q rfl rfl rfl (fun hc => ?_) (fun hc => ?_) | refine w_r rfl (fun hc => ?_) (fun hc => ?_)) <;> ((try simp at hc) <;> try contradiction)))) <;> try (exfalso; omega))
        refine awp_held TM [] sb rfl (fun ρs => ?_)
        refine w_t TT 0 rfl kr kr kr nh rfl rfl rfl rfl sd ?_
        refine w_t TT 1 rfl kr kr kr nh rfl rfl rfl rfl sd ?_
        first | (refine w_t TT 2 rfl kr kr kr nh rfl rfl rfl rfl sd ?_) | (refine w_w TT 2 rfl kr kr kr nh rfl rfl rfl rfl rfl sd ?_)
        refine w_t TT 4 rfl kr kr kr nh rfl rfl rfl rfl sd ?_
        refine w_u [3, 5] kr rfl ⟨?_, ?_, trivial⟩
        first | (refine w_s TT 3 rfl rfl rfl rfl sd sb rfl ?_) | refine w_B _ (d_absInt _ (by omega) (by omega)) rfl rfl rfl rfl rfl rfl rfl rfl rfl ft rfl rfl sb rfl ?_
        refine w_u [5] kr rfl ⟨?_, trivial⟩
        first | (refine w_s TT 5 rfl rfl rfl rfl sd sb rfl ?_) | refine w_B _ (d_absInt _ (by omega) (by omega)) rfl rfl rfl rfl rfl rfl rfl rfl rfl ft rfl rfl sb rfl ?_
        refine w_t TT 6 rfl kr kr kr nh rfl rfl rfl rfl sd ?_
        first | (refine w_t TT 7 rfl kr kr kr nh rfl rfl rfl rfl sd ?_) | (refine w_w TT 7 rfl kr kr kr nh rfl rfl rfl rfl rfl sd ?_)
        refine w_u [8] kr rfl ⟨?_, trivial⟩
        first | (refine w_s TT 8 rfl rfl rfl rfl sd sb rfl ?_) | refine w_B _ (d_absInt _ (by omega) (by omega)) rfl rfl rfl rfl rfl rfl rfl rfl rfl ft rfl rfl sb rfl ?_
        refine w_v kr ?_
        rotate_left
        first | (refine w_s TT 5 rfl rfl rfl rfl sd sb rfl ?_) | refine w_B _ (d_absInt _ (by omega) (by omega)) rfl rfl rfl rfl rfl rfl rfl rfl rfl ft rfl rfl sb rfl ?_
        refine w_u [3] kr rfl ⟨?_, trivial⟩
        first | (refine w_s TT 3 rfl rfl rfl rfl sd sb rfl ?_) | refine w_B _ (d_absInt _ (by omega) (by omega)) rfl rfl rfl rfl rfl rfl rfl rfl rfl ft rfl rfl sb rfl ?_
        refine w_t TT 6 rfl kr kr kr nh rfl rfl rfl rfl sd ?_
        first | (refine w_t TT 7 rfl kr kr kr nh rfl rfl rfl rfl sd ?_) | (refine w_w TT 7 rfl kr kr kr nh rfl rfl rfl rfl rfl sd ?_)
        refine w_u [8] kr rfl ⟨?_, trivial⟩
        first | (refine w_s TT 8 rfl rfl rfl rfl sd sb rfl ?_) | refine w_B _ (d_absInt _ (by omega) (by omega)) rfl rfl rfl rfl rfl rfl rfl rfl rfl ft rfl rfl sb rfl ?_
        refine w_v kr ?_
        rotate_left
        all_goals ((repeat' (first | refine w_a TT rfl rfl rfl sd ?_ | refine w_b ?_ | refine w_c rfl rfl ?_ | refine w_d TT rfl rfl rfl rfl sd ?_ | refine w_e ?_ | refine w_f rfl rfl ?_ | refine w_g ?_ | refine w_h ?_ | refine w_i ?_ | refine w_j ?_ | refine w_k ?_ | refine w_l ?_ | refine w_m rfl ?_ | refine w_n rfl ?_ | refine w_o TM rfl kr ?_ | ((first | refine w_p rfl rfl rfl (fun hc => ?_) (fun hc => ?_) | refine w_q rfl rfl rfl (fun hc => ?_) (fun hc => ?_) | refine w_r rfl (fun hc => ?_) (fun hc => ?_)) <;> ((try simp at hc) <;> try contradiction)))) <;> try (exfalso; omega))
        all_goals
          refine ⟨[], j + 1, hjb, w_4, ⟨w_1, ⟨rfl, rfl, rfl, rfl, own_ints ?_, trivial⟩, rfl⟩⟩
          rw [hg2, ← hse, colA]
          simp only [Int.toNat_natCast, Nat.zero_add]
      · obtain rfl : j = b := by omega
        ((repeat' (first | refine w_a TT rfl rfl rfl sd ?_ | refine w_b ?_ | refine w_c rfl rfl ?_ | refine w_d TT rfl rfl rfl rfl sd ?_ | refine w_e ?_ | refine w_f rfl rfl ?_ | refine w_g ?_ | refine w_h ?_ | refine w_i ?_ | refine w_j ?_ | refine w_k ?_ | refine w_l ?_ | refine w_m rfl ?_ | refine w_n rfl ?_ | refine w_o TM rfl kr ?_ | ((first | refine w_p rfl rfl rfl (fun hc => ?_) (fun hc => ?_) | refine w_q rfl rfl rfl (fun hc => ?_) (fun hc => ?_) | refine w_r rfl (fun hc => ?_) (fun hc => ?_)) <;> ((try simp at hc) <;> try contradiction)))) <;> try (exfalso; omega))
        exact ⟨[], i + 1, hit, w_4, ⟨w_1, ⟨rfl, rfl, rfl, rfl, own_ints genT_next, trivial⟩, rfl⟩⟩
    · obtain rfl : i = t := by omega
      have hgl := genT_len (f := colA ys b) (c := b) (i := i) (j := 0)
      have har := fun cc => d_areNumbers (genT (colA ys b) b i 0) cc (by omega)
      rw [hgl] at har
      have e0 : colB ys b i = genT (colA ys b) b i 0 := rfl
      rw [e0]
      cases hA : (genT (colA ys b) b i 0).all numB
      · rw [hA] at har
        rw [if_neg (by simp)]
        ((repeat' (first | refine w_a TT rfl rfl rfl sd ?_ | refine w_b ?_ | refine w_c rfl rfl ?_ | refine w_d TT rfl rfl rfl rfl sd ?_ | refine w_e ?_ | refine w_f rfl rfl ?_ | refine w_g ?_ | refine w_h ?_ | (first | refine w_z (har _) rfl rfl rfl rfl rfl rfl rfl rfl ft rfl rfl ?_ | refine w_A (har _) rfl rfl rfl rfl rfl rfl rfl rfl ft rfl rfl ?_) | refine w_i ?_ | refine w_j ?_ | refine w_k ?_ | refine w_l ?_ | refine w_m rfl ?_ | refine w_n rfl ?_ | refine w_o TM rfl kr ?_ | ((first | refine w_p rfl rfl rfl (fun hc => ?_) (fun hc => ?_) | refine w_q rfl rfl rfl (fun hc => ?_) (fun hc => ?_) | refine w_r rfl (fun hc => ?_) (fun hc => ?_)) <;> ((try simp at hc) <;> try contradiction)))) <;> try (exfalso; omega))
        exact fin rfl w_3 [(2, 6)] (.tup [.one (.sl 2 1 0 0 0), .one (.bool false)]) [(2, .own 3 0 (.ints []))] 3 ⟨0, Nat.zero_le _, rfl, rfl, rfl⟩ rfl ⟨trivial, ⟨rfl, trivial⟩, rfl⟩ rfl
      · rw [hA] at har
        rw [if_pos rfl]
        ((repeat' (first | refine w_a TT rfl rfl rfl sd ?_ | refine w_b ?_ | refine w_c rfl rfl ?_ | refine w_d TT rfl rfl rfl rfl sd ?_ | refine w_e ?_ | refine w_f rfl rfl ?_ | refine w_g ?_ | refine w_h ?_ | (first | refine w_z (har _) rfl rfl rfl rfl rfl rfl rfl rfl ft rfl rfl ?_ | refine w_A (har _) rfl rfl rfl rfl rfl rfl rfl rfl ft rfl rfl ?_) | refine w_i ?_ | refine w_j ?_ | refine w_k ?_ | refine w_l ?_ | refine w_m rfl ?_ | refine w_n rfl ?_ | refine w_o TM rfl kr ?_ | ((first | refine w_p rfl rfl rfl (fun hc => ?_) (fun hc => ?_) | refine w_q rfl rfl rfl (fun hc => ?_) (fun hc => ?_) | refine w_r rfl (fun hc => ?_) (fun hc => ?_)) <;> ((try simp at hc) <;> try contradiction)))) <;> try (exfalso; omega))
        exact fin rfl w_3 [(2, 5)] (.tup [.one (.sl 2 1 0 (genT (colA ys b) b i 0).length b), .one (.bool true)]) [(2, .own 3 b (.ints (genT (colA ys b) b i 0)))] 3 ⟨b, by omega, rfl, rfl, rfl⟩ (by rw [hgl]; rfl) ⟨trivial, ⟨rfl, trivial⟩, rfl⟩ rfl
/-- the reference marks what is beyond the limit -/
theorem fit_ok {n : Int} (h : numB n = true) : fitV n = n := if_pos h
theorem fit_no {n : Int} (h : numB n = false) : fitV n = badN := if_neg (by simp [h])
theorem fit_GB (n : Int) : GB (fitV n) := by
  cases h : numB n
  · rw [fit_no h]; exact .inr rfl
  · rw [fit_ok h]; exact .inl (numB_true.1 h)
theorem num_no {n : Int} (h : 400000000 < n) : numB n = false := by
  cases e : numB n
  · rfl
  · have := numB_true.1 e; omega
theorem num_gt {n : Int} (h0 : 0 ≤ n) (h : numB n = false) : 400000000 < n := by
  apply Classical.byContradiction
  intro hn
  rw [numB_true.2 (by omega)] at h; cases h
theorem colA_mark {ys : List Int} {c k i : Nat} (h : ys.all numB = true) : addV (fitV (colA ys c k i)) ((ys.getD (i * c + k) 0).natAbs : Int) = fitV (colA ys c k (i + 1)) := by
  have hb := colA_bd (c := c) (k := k) h i
  have hy := num_getD h (i * c + k)
  have hx : 0 ≤ ((ys.getD (i * c + k) 0).natAbs : Int) ∧ ((ys.getD (i * c + k) 0).natAbs : Int) ≤ 400000000 := by omega
  rw [colA]
  generalize colA ys c k i = s at *
  generalize ((ys.getD (i * c + k) 0).natAbs : Int) = x at *
  have hxb : x ≠ badN := by unfold badN; omega
  cases e : numB s
  · have := num_gt hb.1 e
    rw [fit_no e, fit_no (num_no (show 400000000 < s + x by omega)), addV, if_pos (.inl rfl)]
  · have hsb : s ≠ badN := by have := numB_true.1 e; unfold badN; omega
    rw [fit_ok e, addV, if_neg (by rintro (h | h); exact hsb h; exact hxb h)]
theorem hb_mark {ys : List Int} {c t : Nat} (h : ys.all numB = true) : badN ∈ genT (fun k i => fitV (colA ys c k i)) c t 0 ↔ (colB ys c t).all numB = false := by
  have e : ∀ k, fitV (colA ys c k t) = badN ↔ numB (colA ys c k t) = false := fun k => by
    constructor
    · intro hb
      cases e : numB (colA ys c k t)
      · rfl
      · rw [fit_ok e] at hb
        have := (colA_bd (c := c) (k := k) h t).1
        unfold badN at hb; omega
    · exact fit_no
  rw [← Bool.not_eq_true, List.all_eq_true]
  simp only [genT, colB, List.mem_map, List.mem_range, Nat.not_lt_zero, if_false]
  constructor
  · rintro ⟨k, hk, hf⟩ ha
    have := ha _ ⟨k, hk, rfl⟩
    rw [(e k).1 hf] at this; cases this
  · intro hn
    apply Classical.byContradiction
    intro hno
    refine hn fun x hx => ?_
    obtain ⟨k, hk, rfl⟩ := hx
    cases e2 : numB (colA ys c k t)
    · exact absurd ⟨k, hk, (e k).2 e2⟩ hno
    · rfl
theorem hb_same {ys : List Int} {c t : Nat} (h : (colB ys c t).all numB = true) : genT (fun k i => fitV (colA ys c k i)) c t 0 = colB ys c t := by
  rw [List.all_eq_true] at h
  simp only [genT, colB, List.mem_map, List.mem_range, Nat.not_lt_zero, if_false] at h ⊢
  refine List.map_congr_left fun k hk => ?_
  rw [List.mem_range] at hk
  exact fit_ok (h _ ⟨k, hk, rfl⟩)
set_option maxRecDepth 100000 in
set_option maxHeartbeats 4000000 in
theorem d_hboxS (r c : Int) (xs : List Int) (ca : Nat) (hl : xs.length ≤ 1099511627776) : Does Tryz.prog 32 [vM r c 1 xs.length ca] [(1, .ro (.ints xs))] 2 (SlO 3 (hboxB r c xs) 2) := by
  have hr := d_raysS r c xs ca hl
  rw [raysT_eq] at hr
  refine Does.intro TT Tryz.func32 rfl (by kernel_rfl) rfl rfl fun E hE => ?_
  unfold hboxB
  cases hB : raysB r c xs with
  | none =>
    rw [hB] at hr
    ((repeat' (first | refine w_a TT rfl rfl rfl sd ?_ | refine w_b ?_ | refine w_c rfl rfl ?_ | refine w_d TT rfl rfl rfl rfl sd ?_ | refine w_e ?_ | refine w_f rfl rfl ?_ | refine w_g ?_ | refine w_h ?_ | ((refine w_E (hr) rfl rfl rfl rfl rfl rfl rfl ft rfl ?_); rintro v Hout n1 ⟨rfl, rfl, rfl⟩) | refine w_i ?_ | refine w_j ?_ | refine w_k ?_ | refine w_l ?_ | refine w_m rfl ?_ | refine w_n rfl ?_ | refine w_o TM rfl kr ?_ | ((first | refine w_p rfl rfl rfl (fun hc => ?_) (fun hc => ?_) | refine w_q rfl rfl rfl (fun hc => ?_) (fun hc => ?_) | refine w_r rfl (fun hc => ?_) (fun hc => ?_)) <;> ((try simp at hc) <;> try contradiction)))) <;> try (exfalso; omega))
    refine w_G hE (fun _ : Unit => True) (fun _ => 0) (fun _ => [(4, .one (.ptr 3 3 0 0)), (5, vB false), (6, vS 4 1 0 0 0), (7, vI 0)]) (fun _ => [(1, .ro (.ints xs)), (3, .own 26 1 (.lit zeroM)), (4, .own 3 0 (.ints []))]) 5 [] () trivial ⟨w_1, w_2, rfl⟩ ?_
    rintro ⟨⟩ -
    ((repeat' (first | refine w_a TT rfl rfl rfl sd ?_ | refine w_b ?_ | refine w_c rfl rfl ?_ | refine w_d TT rfl rfl rfl rfl sd ?_ | refine w_e ?_ | refine w_f rfl rfl ?_ | refine w_g ?_ | refine w_h ?_ | refine w_i ?_ | refine w_j ?_ | refine w_k ?_ | refine w_l ?_ | refine w_m rfl ?_ | refine w_n rfl ?_ | refine w_o TM rfl kr ?_ | ((first | refine w_p rfl rfl rfl (fun hc => ?_) (fun hc => ?_) | refine w_q rfl rfl rfl (fun hc => ?_) (fun hc => ?_) | refine w_r rfl (fun hc => ?_) (fun hc => ?_)) <;> ((try simp at hc) <;> try contradiction)))) <;> try (exfalso; omega))
    exact fin rfl w_3 [(2, 5)] (.tup [.one (.sl 2 1 0 0 0), .one (.bool false)]) [(2, .own 3 0 (.ints []))] 3 ⟨0, Nat.zero_le _, rfl, rfl, rfl⟩ rfl ⟨trivial, ⟨rfl, trivial⟩, rfl⟩ rfl
  | some s =>
    rw [hB] at hr
    obtain ⟨b, rfl, hb1, hb, ht, hyl, hyn⟩ := raysB_dims hB
    obtain ⟨ys, t⟩ := s
    dsimp only at ht hyl hyn ⊢
    simp only [Int.toNat_natCast]
    have htb : t * b ≤ 24 * 3 := Nat.mul_le_mul ht hb
    have emb : (if (0 : Int) < (b : Int) then (b : Int) else 0).toNat = b := by rw [if_pos (by omega)]; omega
    ((repeat' (first | refine w_a TT rfl rfl rfl sd ?_ | refine w_b ?_ | refine w_c rfl rfl ?_ | refine w_d TT rfl rfl rfl rfl sd ?_ | refine w_e ?_ | refine w_f rfl rfl ?_ | refine w_g ?_ | refine w_h ?_ | ((refine w_E (hr) rfl rfl rfl rfl rfl rfl rfl ft rfl ?_); rintro v Hout n1 ⟨capy, hcapy, rfl, rfl, rfl⟩) | refine w_i ?_ | refine w_j ?_ | refine w_k ?_ | refine w_l ?_ | refine w_m rfl ?_ | refine w_n rfl ?_ | refine w_o TM rfl kr ?_ | ((first | refine w_p rfl rfl rfl (fun hc => ?_) (fun hc => ?_) | refine w_q rfl rfl rfl (fun hc => ?_) (fun hc => ?_) | refine w_r rfl (fun hc => ?_) (fun hc => ?_)) <;> ((try simp at hc) <;> try contradiction)))) <;> try (exfalso; omega))
    dsimp only at hcapy
    rw [emb]
    refine w_G hE (fun i : Nat => i ≤ t) (fun i => t - i)
      (fun i => [(4, .one (.ptr 4 3 0 0)), (5, vB true), (6, vS 5 1 0 b b), (7, vI i)])
      (fun i => [(1, .ro (.ints xs)), (3, .own 3 capy (.ints ys)), (4, .own 26 1 (.lit [.int t, .int b, .sl 3 1 0 ys.length capy])), (5, .own 3 b (.ints (genT (fun k i => fitV (colA ys b k i)) b i 0)))]) 6 [] 0 (Nat.zero_le _) ⟨w_1, ⟨rfl, rfl, rfl, own_ints (genT_zero fun _ => rfl), trivial⟩, rfl⟩ ?_
    intro i hi
    have hib : i * b ≤ t * b := Nat.mul_le_mul_right _ hi
    by_cases hit : i < t
    · have hin := row_in (c := b) hit
      have hkn : ¬ t ≤ i := by omega
      ((repeat' (first | refine w_a TT rfl rfl rfl sd ?_ | refine w_b ?_ | refine w_c rfl rfl ?_ | refine w_d TT rfl rfl rfl rfl sd ?_ | refine w_e ?_ | refine w_f rfl rfl ?_ | refine w_g ?_ | refine w_h ?_ | refine w_i ?_ | refine w_j ?_ | refine w_k ?_ | refine w_l ?_ | refine w_m rfl ?_ | refine w_n rfl ?_ | refine w_o TM rfl kr ?_ | ((first | refine w_p rfl rfl rfl (fun hc => ?_) (fun hc => ?_) | refine w_q rfl rfl rfl (fun hc => ?_) (fun hc => ?_) | refine w_r rfl (fun hc => ?_) (fun hc => ?_)) <;> ((try simp at hc) <;> try contradiction)))) <;> try (exfalso; omega))
      refine w_G hE (fun j : Nat => j ≤ b) (fun j => b - j)
        (fun j => [(4, .one (.ptr 4 3 0 0)), (5, vB true), (6, vS 5 1 0 b b), (7, vI i), (8, vI j)])
        (fun j => [(1, .ro (.ints xs)), (3, .own 3 capy (.ints ys)), (4, .own 26 1 (.lit [.int t, .int b, .sl 3 1 0 ys.length capy])), (5, .own 3 b (.ints (genT (fun k i => fitV (colA ys b k i)) b i j)))]) 6 [] 0 (Nat.zero_le _) ⟨w_1, w_2, rfl⟩ ?_
      intro j hj
      have hgl := genT_len (f := fun k i => fitV (colA ys b k i)) (c := b) (i := i) (j := j)
      by_cases hjb : j < b
      · have eib : (i : Int) * b = ((i * b : Nat) : Int) := by simp
        have hcell := d_cell12 t b i j ys ys.length capy rfl (by omega) (by omega) (by omega) (by omega)
        have ecl : ys.getD (0 + ((i : Int) * b + j).toNat) 0 = ys.getD (i * b + j) 0 := by rw [eib]; congr 1; omega
        have hy := num_getD hyn (i * b + j)
        have hg := genT_at (f := fun k i => fitV (colA ys b k i)) (i := i) hjb
        have hg2 : (genT (fun k i => fitV (colA ys b k i)) b i j).getD (0 + (j : Int).toNat) 0 = fitV (colA ys b j i) := by rw [show 0 + (j : Int).toNat = j by omega]; exact hg
        have hse := genT_set (f := fun k i => fitV (colA ys b k i)) (i := i) hjb
        have hmk := colA_mark (c := b) (k := j) (i := i) hyn
        rw [← ecl, ← hg2] at hmk
        have habs := d_l1Abs (ys.getD (0 + ((i : Int) * b + j).toNat) 0) (by omega) (by omega)
        have hadd := d_addV ((genT (fun k i => fitV (colA ys b k i)) b i j).getD (0 + (j : Int).toNat) 0) ((ys.getD (0 + ((i : Int) * b + j).toNat) 0).natAbs : Int) (by rw [hg2]; exact fit_GB _) (.inl (by omega))
        ((repeat' (first | refine w_a TT rfl rfl rfl sd ?_ | refine w_b ?_ | refine w_c rfl rfl ?_ | refine w_d TT rfl rfl rfl rfl sd ?_ | refine w_e ?_ | refine w_f rfl rfl ?_ | refine w_g ?_ | refine w_h ?_ | refine w_i ?_ | refine w_j ?_ | refine w_k ?_ | refine w_l ?_ | refine w_m rfl ?_ | refine w_n rfl ?_ | ((first | refine w_p rfl rfl rfl (fun hc => ?_) (fun hc => ?_) | refine w_q rfl rfl rfl (fun hc => ?_) (fun hc => ?_) | refine w_r rfl (fun hc => ?_) (fun hc => ?_)) <;> ((try simp at hc) <;> try contradiction)))) <;> try (exfalso; omega))
        refine awp_held TM [(3, _), (4, _)] sb rfl (fun ρs => ?_)
        refine w_t TT 0 rfl kr kr kr nh rfl rfl rfl rfl sd ?_
        refine w_t TT 1 rfl kr kr kr nh rfl rfl rfl rfl sd ?_
        refine w_t TT 2 rfl kr kr kr nh rfl rfl rfl rfl sd ?_
        refine w_t TT 3 rfl kr kr kr nh rfl rfl rfl rfl sd ?_
        first | (refine w_t TT 4 rfl kr kr kr nh rfl rfl rfl rfl sd ?_) | (refine w_w TT 4 rfl kr kr kr nh rfl rfl rfl rfl rfl sd ?_)
        refine w_t TT 6 rfl kr kr kr nh rfl rfl rfl rfl sd ?_
        refine w_t TT 7 rfl kr kr kr nh rfl rfl rfl rfl sd ?_
        refine w_t TT 8 rfl kr kr kr nh rfl rfl rfl rfl sd ?_
        refine w_u [5, 9] kr rfl ⟨?_, ?_, trivial⟩
        first | (refine w_s TT 5 rfl rfl rfl rfl sd sb rfl ?_) | refine w_B _ (hcell) rfl rfl rfl rfl rfl rfl rfl rfl rfl ft rfl rfl sb rfl ?_ | refine w_B _ (habs) rfl rfl rfl rfl rfl rfl rfl rfl rfl ft rfl rfl sb rfl ?_ | refine w_B _ (hadd) rfl rfl rfl rfl rfl rfl rfl rfl rfl ft rfl rfl sb rfl ?_
        refine w_u [9] kr rfl ⟨?_, trivial⟩
        first | (refine w_s TT 9 rfl rfl rfl rfl sd sb rfl ?_) | refine w_B _ (hcell) rfl rfl rfl rfl rfl rfl rfl rfl rfl ft rfl rfl sb rfl ?_ | refine w_B _ (habs) rfl rfl rfl rfl rfl rfl rfl rfl rfl ft rfl rfl sb rfl ?_ | refine w_B _ (hadd) rfl rfl rfl rfl rfl rfl rfl rfl rfl ft rfl rfl sb rfl ?_
        refine w_u [10] kr rfl ⟨?_, trivial⟩
        first | (refine w_s TT 10 rfl rfl rfl rfl sd sb rfl ?_) | refine w_B _ (hcell) rfl rfl rfl rfl rfl rfl rfl rfl rfl ft rfl rfl sb rfl ?_ | refine w_B _ (habs) rfl rfl rfl rfl rfl rfl rfl rfl rfl ft rfl rfl sb rfl ?_ | refine w_B _ (hadd) rfl rfl rfl rfl rfl rfl rfl rfl rfl ft rfl rfl sb rfl ?_
        refine w_u [11] kr rfl ⟨?_, trivial⟩
        first | (refine w_s TT 11 rfl rfl rfl rfl sd sb rfl ?_) | refine w_B _ (hcell) rfl rfl rfl rfl rfl rfl rfl rfl rfl ft rfl rfl sb rfl ?_ | refine w_B _ (habs) rfl rfl rfl rfl rfl rfl rfl rfl rfl ft rfl rfl sb rfl ?_ | refine w_B _ (hadd) rfl rfl rfl rfl rfl rfl rfl rfl rfl ft rfl rfl sb rfl ?_
        first | (refine w_t TT 12 rfl kr kr kr nh rfl rfl rfl rfl sd ?_) | (refine w_w TT 12 rfl kr kr kr nh rfl rfl rfl rfl rfl sd ?_)
        refine w_u [13] kr rfl ⟨?_, trivial⟩
        first | (refine w_s TT 13 rfl rfl rfl rfl sd sb rfl ?_) | refine w_B _ (hcell) rfl rfl rfl rfl rfl rfl rfl rfl rfl ft rfl rfl sb rfl ?_ | refine w_B _ (habs) rfl rfl rfl rfl rfl rfl rfl rfl rfl ft rfl rfl sb rfl ?_ | refine w_B _ (hadd) rfl rfl rfl rfl rfl rfl rfl rfl rfl ft rfl rfl sb rfl ?_
        refine w_v kr ?_
        rotate_left
        first | (refine w_s TT 9 rfl rfl rfl rfl sd sb rfl ?_) | refine w_B _ (hcell) rfl rfl rfl rfl rfl rfl rfl rfl rfl ft rfl rfl sb rfl ?_ | refine w_B _ (habs) rfl rfl rfl rfl rfl rfl rfl rfl rfl ft rfl rfl sb rfl ?_ | refine w_B _ (hadd) rfl rfl rfl rfl rfl rfl rfl rfl rfl ft rfl rfl sb rfl ?_
        refine w_u [5, 10] kr rfl ⟨?_, ?_, trivial⟩
        first | (refine w_s TT 5 rfl rfl rfl rfl sd sb rfl ?_) | refine w_B _ (hcell) rfl rfl rfl rfl rfl rfl rfl rfl rfl ft rfl rfl sb rfl ?_ | refine w_B _ (habs) rfl rfl rfl rfl rfl rfl rfl rfl rfl ft rfl rfl sb rfl ?_ | refine w_B _ (hadd) rfl rfl rfl rfl rfl rfl rfl rfl rfl ft rfl rfl sb rfl ?_
        refine w_u [10] kr rfl ⟨?_, trivial⟩
        first | (refine w_s TT 10 rfl rfl rfl rfl sd sb rfl ?_) | refine w_B _ (hcell) rfl rfl rfl rfl rfl rfl rfl rfl rfl ft rfl rfl sb rfl ?_ | refine w_B _ (habs) rfl rfl rfl rfl rfl rfl rfl rfl rfl ft rfl rfl sb rfl ?_ | refine w_B _ (hadd) rfl rfl rfl rfl rfl rfl rfl rfl rfl ft rfl rfl sb rfl ?_
        refine w_u [11] kr rfl ⟨?_, trivial⟩
        first | (refine w_s TT 11 rfl rfl rfl rfl sd sb rfl ?_) | refine w_B _ (hcell) rfl rfl rfl rfl rfl rfl rfl rfl rfl ft rfl rfl sb rfl ?_ | refine w_B _ (habs) rfl rfl rfl rfl rfl rfl rfl rfl rfl ft rfl rfl sb rfl ?_ | refine w_B _ (hadd) rfl rfl rfl rfl rfl rfl rfl rfl rfl ft rfl rfl sb rfl ?_
        first | (refine w_t TT 12 rfl kr kr kr nh rfl rfl rfl rfl sd ?_) | (refine w_w TT 12 rfl kr kr kr nh rfl rfl rfl rfl rfl sd ?_)
        refine w_u [13] kr rfl ⟨?_, trivial⟩
        first | (refine w_s TT 13 rfl rfl rfl rfl sd sb rfl ?_) | refine w_B _ (hcell) rfl rfl rfl rfl rfl rfl rfl rfl rfl ft rfl rfl sb rfl ?_ | refine w_B _ (habs) rfl rfl rfl rfl rfl rfl rfl rfl rfl ft rfl rfl sb rfl ?_ | refine w_B _ (hadd) rfl rfl rfl rfl rfl rfl rfl rfl rfl ft rfl rfl sb rfl ?_
        refine w_v kr ?_
        rotate_left
        first | (refine w_s TT 10 rfl rfl rfl rfl sd sb rfl ?_) | refine w_B _ (hcell) rfl rfl rfl rfl rfl rfl rfl rfl rfl ft rfl rfl sb rfl ?_ | refine w_B _ (habs) rfl rfl rfl rfl rfl rfl rfl rfl rfl ft rfl rfl sb rfl ?_ | refine w_B _ (hadd) rfl rfl rfl rfl rfl rfl rfl rfl rfl ft rfl rfl sb rfl ?_
        refine w_u [5] kr rfl ⟨?_, trivial⟩
        first | (refine w_s TT 5 rfl rfl rfl rfl sd sb rfl ?_) | refine w_B _ (hcell) rfl rfl rfl rfl rfl rfl rfl rfl rfl ft rfl rfl sb rfl ?_ | refine w_B _ (habs) rfl rfl rfl rfl rfl rfl rfl rfl rfl ft rfl rfl sb rfl ?_ | refine w_B _ (hadd) rfl rfl rfl rfl rfl rfl rfl rfl rfl ft rfl rfl sb rfl ?_
        refine w_u [11] kr rfl ⟨?_, trivial⟩
        first | (refine w_s TT 11 rfl rfl rfl rfl sd sb rfl ?_) | refine w_B _ (hcell) rfl rfl rfl rfl rfl rfl rfl rfl rfl ft rfl rfl sb rfl ?_ | refine w_B _ (habs) rfl rfl rfl rfl rfl rfl rfl rfl rfl ft rfl rfl sb rfl ?_ | refine w_B _ (hadd) rfl rfl rfl rfl rfl rfl rfl rfl rfl ft rfl rfl sb rfl ?_
        first | (refine w_t TT 12 rfl kr kr kr nh rfl rfl rfl rfl sd ?_) | (refine w_w TT 12 rfl kr kr kr nh rfl rfl rfl rfl rfl sd ?_)
        refine w_u [13] kr rfl ⟨?_, trivial⟩
        first | (refine w_s TT 13 rfl rfl rfl rfl sd sb rfl ?_) | refine w_B _ (hcell) rfl rfl rfl rfl rfl rfl rfl rfl rfl ft rfl rfl sb rfl ?_ | refine w_B _ (habs) rfl rfl rfl rfl rfl rfl rfl rfl rfl ft rfl rfl sb rfl ?_ | refine w_B _ (hadd) rfl rfl rfl rfl rfl rfl rfl rfl rfl ft rfl rfl sb rfl ?_
        refine w_v kr ?_
        rotate_left
        all_goals ((repeat' (first | refine w_a TT rfl rfl rfl sd ?_ | refine w_b ?_ | refine w_c rfl rfl ?_ | refine w_d TT rfl rfl rfl rfl sd ?_ | refine w_e ?_ | refine w_f rfl rfl ?_ | refine w_g ?_ | refine w_h ?_ | refine w_i ?_ | refine w_j ?_ | refine w_k ?_ | refine w_l ?_ | refine w_m rfl ?_ | refine w_n rfl ?_ | refine w_o TM rfl kr ?_ | ((first | refine w_p rfl rfl rfl (fun hc => ?_) (fun hc => ?_) | refine w_q rfl rfl rfl (fun hc => ?_) (fun hc => ?_) | refine w_r rfl (fun hc => ?_) (fun hc => ?_)) <;> ((try simp at hc) <;> try contradiction)))) <;> try (exfalso; omega))
        all_goals
          refine ⟨[], j + 1, hjb, w_4, ⟨w_1, ⟨rfl, rfl, rfl, own_ints ?_, trivial⟩, rfl⟩⟩
          rw [hmk, ← hse]
          simp only [Int.toNat_natCast, Nat.zero_add]
      · obtain rfl : j = b := by omega
        ((repeat' (first | refine w_a TT rfl rfl rfl sd ?_ | refine w_b ?_ | refine w_c rfl rfl ?_ | refine w_d TT rfl rfl rfl rfl sd ?_ | refine w_e ?_ | refine w_f rfl rfl ?_ | refine w_g ?_ | refine w_h ?_ | refine w_i ?_ | refine w_j ?_ | refine w_k ?_ | refine w_l ?_ | refine w_m rfl ?_ | refine w_n rfl ?_ | refine w_o TM rfl kr ?_ | ((first | refine w_p rfl rfl rfl (fun hc => ?_) (fun hc => ?_) | refine w_q rfl rfl rfl (fun hc => ?_) (fun hc => ?_) | refine w_r rfl (fun hc => ?_) (fun hc => ?_)) <;> ((try simp at hc) <;> try contradiction)))) <;> try (exfalso; omega))
        exact ⟨[], i + 1, hit, w_4, ⟨w_1, ⟨rfl, rfl, rfl, own_ints genT_next, trivial⟩, rfl⟩⟩
    · obtain rfl : i = t := by omega
      have hgl := genT_len (f := fun k i => fitV (colA ys b k i)) (c := b) (i := i) (j := 0)
      have har := fun cc => d_bads (genT (fun k i => fitV (colA ys b k i)) b i 0) cc (by omega)
      rw [hgl] at har
      cases hA : (colB ys b i).all numB
      · rw [decide_eq_true ((hb_mark hyn).2 hA)] at har
        rw [if_neg (by simp)]
        ((repeat' (first | refine w_a TT rfl rfl rfl sd ?_ | refine w_b ?_ | refine w_c rfl rfl ?_ | refine w_d TT rfl rfl rfl rfl sd ?_ | refine w_e ?_ | refine w_f rfl rfl ?_ | refine w_g ?_ | refine w_h ?_ | (first | refine w_z (har _) rfl rfl rfl rfl rfl rfl rfl rfl ft rfl rfl ?_ | refine w_A (har _) rfl rfl rfl rfl rfl rfl rfl rfl ft rfl rfl ?_) | refine w_i ?_ | refine w_j ?_ | refine w_k ?_ | refine w_l ?_ | refine w_m rfl ?_ | refine w_n rfl ?_ | refine w_o TM rfl kr ?_ | ((first | refine w_p rfl rfl rfl (fun hc => ?_) (fun hc => ?_) | refine w_q rfl rfl rfl (fun hc => ?_) (fun hc => ?_) | refine w_r rfl (fun hc => ?_) (fun hc => ?_)) <;> ((try simp at hc) <;> try contradiction)))) <;> try (exfalso; omega))
        exact fin rfl w_3 [(2, 6)] (.tup [.one (.sl 2 1 0 0 0), .one (.bool false)]) [(2, .own 3 0 (.ints []))] 3 ⟨0, Nat.zero_le _, rfl, rfl, rfl⟩ rfl ⟨trivial, ⟨rfl, trivial⟩, rfl⟩ rfl
      · rw [decide_eq_false (fun h => by rw [(hb_mark hyn).1 h] at hA; cases hA)] at har
        rw [if_pos rfl]
        have hsm := hb_same hA
        have hcl : (colB ys b i).length = b := genT_len
        ((repeat' (first | refine w_a TT rfl rfl rfl sd ?_ | refine w_b ?_ | refine w_c rfl rfl ?_ | refine w_d TT rfl rfl rfl rfl sd ?_ | refine w_e ?_ | refine w_f rfl rfl ?_ | refine w_g ?_ | refine w_h ?_ | (first | refine w_z (har _) rfl rfl rfl rfl rfl rfl rfl rfl ft rfl rfl ?_ | refine w_A (har _) rfl rfl rfl rfl rfl rfl rfl rfl ft rfl rfl ?_) | refine w_i ?_ | refine w_j ?_ | refine w_k ?_ | refine w_l ?_ | refine w_m rfl ?_ | refine w_n rfl ?_ | refine w_o TM rfl kr ?_ | ((first | refine w_p rfl rfl rfl (fun hc => ?_) (fun hc => ?_) | refine w_q rfl rfl rfl (fun hc => ?_) (fun hc => ?_) | refine w_r rfl (fun hc => ?_) (fun hc => ?_)) <;> ((try simp at hc) <;> try contradiction)))) <;> try (exfalso; omega))
        exact fin rfl w_3 [(2, 5)] (.tup [.one (.sl 2 1 0 (colB ys b i).length b), .one (.bool true)]) [(2, .own 3 b (.ints (colB ys b i)))] 3 ⟨b, by omega, rfl, rfl, rfl⟩ (by rw [hcl]; rfl) ⟨trivial, ⟨own_ints hsm, trivial⟩, rfl⟩ rfl
end Go.Proofs.YtfkbjkmlpinoeaaGreat

/-
  THE LAW FnExactHilbertBox, walked.
-/
namespace Go.Proofs.YtfkbjkmlpinoeaaGreat
open Go.RowKit

theorem sl_form {r c : Int} {xs : List Int} : ∃ (zs : List Int) (ok : Bool), zs.length ≤ 24 ∧ (ok = (hboxB r c xs).isSome ∧ zs = (hboxB r c xs).getD []) ∧ ∀ t k, SlO t (hboxB r c xs) k = SlB t zs ok k := by
  cases h : hboxB r c xs with
  | none => exact ⟨[], false, Nat.zero_le _, ⟨rfl, rfl⟩, fun _ _ => rfl⟩
  | some zs =>
    refine ⟨zs, true, ?_, ⟨rfl, rfl⟩, fun _ _ => rfl⟩
    unfold hboxB at h
    split at h
    · cases h
    · rename_i s hs
      split at h
      · cases h
        obtain ⟨b, rfl, hb1, hb, ht, -⟩ := raysB_dims hs
        rw [colB, genT_len]; omega
      · cases h
set_option maxRecDepth 100000 in
set_option maxHeartbeats 16000000 in
theorem d_lawHBox (r c : Int) (xs : List Int) (ca : Nat) (hn : xs.length ≤ 9223372036854775807) :
    Does Tryz.prog 7 [vM r c 1 xs.length ca] [(1, .ro (.ints xs))] 2 (Ret (vB true) 2) := by
  refine Does.intro TT Tryz.func7 rfl (by kernel_rfl) rfl rfl fun E hE => ?_
  have e1 := d_szMatrix r c xs ca 1048576 (by omega) hn
  by_cases q1 : 0 ≤ szL 1048576 xs.length
  · have hl : xs.length ≤ 1099511627776 := by unfold szL at q1; split at q1 <;> omega
    obtain ⟨ys, ok, hyl, -, hZ⟩ := sl_form (r := r) (c := c) (xs := xs)
    have h1 := fun ca => d_hboxS r c xs ca hl
    have h2 := fun ca h => d_hboxI r c xs ca hl h
    rw [hZ] at h1 h2
    have hyy : ys.length ≤ 1099511627776 := by omega
    cases ok
    all_goals
      ((repeat' (first | refine w_a TT rfl rfl rfl sd ?_ | refine w_b ?_ | refine w_c rfl rfl ?_ | refine w_d TT rfl rfl rfl rfl sd ?_ | refine w_e ?_ | refine w_f rfl rfl ?_ | refine w_g ?_ | refine w_h ?_ | (first | refine w_z (e1) rfl rfl rfl rfl rfl rfl rfl rfl ft rfl rfl ?_ | refine w_A (e1) rfl rfl rfl rfl rfl rfl rfl rfl ft rfl rfl ?_) | (refine w_C (d_toMatrix r c xs _ hl) rfl rfl rfl rfl rfl rfl rfl ft rfl rfl (MadeMx.out) ?_; rintro v b ⟨c1a, hc1a, rfl, he, -⟩; cases he) | (refine w_C (h1 _) rfl rfl rfl rfl rfl rfl rfl ft rfl rfl (SlB.out) ?_; rintro v b ⟨cw, hcw, rfl, he, -⟩; cases he) | (refine w_C (h2 _ hc1a) rfl rfl rfl rfl rfl rfl rfl ft rfl rfl (SlB.out) ?_; rintro v b ⟨cg, hcg, rfl, he, -⟩; cases he) | (first | refine w_z (d_eqIntS ys ys _ _ hyy hyy) rfl rfl rfl rfl rfl rfl rfl rfl ft rfl rfl ?_ | refine w_A (d_eqIntS ys ys _ _ hyy hyy) rfl rfl rfl rfl rfl rfl rfl rfl ft rfl rfl ?_) | refine w_i ?_ | refine w_j ?_ | refine w_k ?_ | refine w_l ?_ | refine w_m rfl ?_ | refine w_n rfl ?_ | ((first | refine w_p rfl rfl rfl (fun hc => ?_) (fun hc => ?_) | refine w_q rfl rfl rfl (fun hc => ?_) (fun hc => ?_) | refine w_r rfl (fun hc => ?_) (fun hc => ?_)) <;> ((try simp at hc) <;> try contradiction)))) <;> try (exfalso; omega))
      refine awp_held TM [(2, _), (6, _)] sb rfl (fun ρs => ?_)
      refine w_t TT 0 rfl kr kr kr nh rfl rfl rfl rfl sd ?_
      refine w_t TT 1 rfl kr kr kr nh rfl rfl rfl rfl sd ?_
      refine w_u [2] kr rfl ⟨?_, trivial⟩
      first | (refine w_s TT 2 rfl rfl rfl rfl sd sb rfl ?_) | (refine w_D _ (d_toMatrix r c xs _ hl) rfl rfl rfl rfl rfl rfl rfl rfl ft rfl rfl (MadeMx.out) sb rfl rfl ?_; rintro v b ⟨c1b, hc1b, rfl, he, -⟩; cases he) | refine w_B _ (d_eqMatrix r c r c xs xs _ _ hl hl) rfl rfl rfl rfl rfl rfl rfl rfl rfl ft rfl rfl sb rfl ?_
      refine w_u [3] kr rfl ⟨?_, trivial⟩
      first | (refine w_s TT 3 rfl rfl rfl rfl sd sb rfl ?_) | (refine w_D _ (d_toMatrix r c xs _ hl) rfl rfl rfl rfl rfl rfl rfl rfl ft rfl rfl (MadeMx.out) sb rfl rfl ?_; rintro v b ⟨c1b, hc1b, rfl, he, -⟩; cases he) | refine w_B _ (d_eqMatrix r c r c xs xs _ _ hl hl) rfl rfl rfl rfl rfl rfl rfl rfl rfl ft rfl rfl sb rfl ?_
      refine w_t TT 4 rfl kr kr kr nh rfl rfl rfl rfl sd ?_
      refine w_v kr ?_
      rotate_left
      ((repeat' (first | refine w_a TT rfl rfl rfl sd ?_ | refine w_b ?_ | refine w_c rfl rfl ?_ | refine w_d TT rfl rfl rfl rfl sd ?_ | refine w_e ?_ | refine w_f rfl rfl ?_ | refine w_g ?_ | refine w_h ?_ | (refine w_C (d_toMatrix r c xs _ hl) rfl rfl rfl rfl rfl rfl rfl ft rfl rfl (MadeMx.out) ?_; rintro v b ⟨c1a, hc1a, rfl, he, -⟩; cases he) | ((refine w_E (d_markMatrix r c xs _ _ 1 hl (by omega) (by omega)) rfl rfl rfl rfl rfl rfl rfl ft rfl ?_); rintro v Hout n1 ⟨rfl, rfl, rfl⟩) | (first | refine w_z (d_eqIntS ys ys _ _ hyy hyy) rfl rfl rfl rfl rfl rfl rfl rfl ft rfl rfl ?_ | refine w_A (d_eqIntS ys ys _ _ hyy hyy) rfl rfl rfl rfl rfl rfl rfl rfl ft rfl rfl ?_) | ((refine w_E (d_markIntS ys _ _ 1 hyy (by omega) (by omega)) rfl rfl rfl rfl rfl rfl rfl ft rfl ?_); rintro v Hout n1 ⟨rfl, rfl, rfl⟩) | (first | refine w_z (d_heldIntS ys.length _ 1 hyy (by omega) (by omega)) rfl rfl rfl rfl rfl rfl rfl rfl ft rfl rfl ?_ | refine w_A (d_heldIntS ys.length _ 1 hyy (by omega) (by omega)) rfl rfl rfl rfl rfl rfl rfl rfl ft rfl rfl ?_) | (refine w_C (h2 _ hc1a) rfl rfl rfl rfl rfl rfl rfl ft rfl rfl (SlB.out) ?_; rintro v b ⟨ch, hch, rfl, he, -⟩; cases he) | refine w_i ?_ | refine w_j ?_ | refine w_k ?_ | refine w_l ?_ | refine w_m rfl ?_ | refine w_n rfl ?_ | refine w_o TM rfl kr ?_ | ((first | refine w_p rfl rfl rfl (fun hc => ?_) (fun hc => ?_) | refine w_q rfl rfl rfl (fun hc => ?_) (fun hc => ?_) | refine w_r rfl (fun hc => ?_) (fun hc => ?_)) <;> ((try simp at hc) <;> try contradiction)))) <;> try (exfalso; omega))
    all_goals refine fin_ret rfl w_3 (rfl) rfl
  · ((repeat' (first | refine w_a TT rfl rfl rfl sd ?_ | refine w_b ?_ | refine w_c rfl rfl ?_ | refine w_d TT rfl rfl rfl rfl sd ?_ | refine w_e ?_ | refine w_f rfl rfl ?_ | refine w_g ?_ | refine w_h ?_ | (first | refine w_z (e1) rfl rfl rfl rfl rfl rfl rfl rfl ft rfl rfl ?_ | refine w_A (e1) rfl rfl rfl rfl rfl rfl rfl rfl ft rfl rfl ?_) | refine w_i ?_ | refine w_j ?_ | refine w_k ?_ | refine w_l ?_ | refine w_m rfl ?_ | refine w_n rfl ?_ | ((first | refine w_p rfl rfl rfl (fun hc => ?_) (fun hc => ?_) | refine w_q rfl rfl rfl (fun hc => ?_) (fun hc => ?_) | refine w_r rfl (fun hc => ?_) (fun hc => ?_)) <;> ((try simp at hc) <;> try contradiction)))) <;> try (exfalso; omega))
    all_goals refine fin_ret rfl w_3 (rfl) rfl
end Go.Proofs.YtfkbjkmlpinoeaaGreat
