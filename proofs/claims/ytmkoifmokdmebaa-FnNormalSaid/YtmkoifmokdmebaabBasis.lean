/-
  CONTRACTS: the basis of the rows of a matrix, of both packages.
-/
import Derived.Test.YtmkoifmokdmebaapHerm2
import Derived.Test.YtmkoifmokdmebaabHermS2
import Derived.Test.YtmkoifmokdmebaabRows
set_option linter.unusedVariables false
set_option linter.unusedSimpArgs false
namespace Go.Proofs.Ytmkoifmokdmebaa
open Go.RowKit

def zoP (xs : List Int) (off n : Nat) : Prop := ∀ k, k < n → xs.getD (off + k) 0 = 0
instance {xs : List Int} {off n : Nat} : Decidable (zoP xs off n) := by unfold zoP; infer_instance
/-- the first t rows have something, the others nothing -/
structure Split (a b t : Nat) (xs : List Int) : Prop where
  le : t ≤ a
  yes : ∀ i, i < t → ∃ k, k < b ∧ xs.getD (i * b + k) 0 ≠ 0
  no : ∀ i k, t ≤ i → i < a → k < b → xs.getD (i * b + k) 0 = 0
theorem Shape.split {a b t : Nat} {xs : List Int} {pv : Nat → Nat} (h : Shape a b b t xs pv) (ht : t ≤ a) : Split a b t xs := ⟨ht, fun i hi => ⟨pv i, (h.pos i hi).1, fun e => by have := (h.pos i hi).2; omega⟩, fun i k h1 h2 h3 => h.zero i k h1 h2 h3⟩
theorem Split.zo {a b t i : Nat} {xs : List Int} (h : Split a b t xs) (hi : i < a) : decide (zoP xs (i * b) b) = decide (t ≤ i) := by
  by_cases c : t ≤ i
  · rw [decide_eq_true c, decide_eq_true]
    exact fun k hk => h.no i k c hi hk
  · rw [decide_eq_false c, decide_eq_false]
    intro hz
    obtain ⟨k, h1, h2⟩ := h.yes i (by omega)
    exact h2 (hz k h1)
def basO (r c : Int) (xs : List Int) : Option (List Int × Nat) := if isM r c xs then (hTo r.toNat c.toNat (xs, idTo r.toNat r.toNat) c.toNat).map fun st => (st.1.1.take (st.2 * c.toNat), st.2) else none
def BasR (t : TypeId) (c : Int) (o : Option (List Int × Nat)) (k : Nat) (v : AV) (Hout : List (Nat × Blk)) (n1 : Nat) : Prop := match o with
  | none => v = .tup [.agg zeroM, .one (.bool false)] ∧ Hout = [] ∧ n1 = k
  | some s => ∃ cap, s.1.length ≤ cap ∧ v = .tup [.agg [.int s.2, .int c, .sl k 1 0 s.1.length cap], .one (.bool true)] ∧ Hout = [(k, .own t cap (.ints s.1))] ∧ n1 = k + 1
set_option maxHeartbeats 2000000 in
theorem d_l12Rows (a b t n ca : Nat) (xs : List Int) (hn : n = xs.length) (hx : xs.length = a * b) (ha : a ≤ 24) (hb : b ≤ 24) (hs : Split a b t xs) : Does Try.prog 109 [vM a b 1 n ca] [(1, .ro (.ints xs))] 2 (Ret (vI t) 2) := by
  subst hn
  refine Does.intro TT Try.func109 rfl (by kernel_rfl) rfl rfl fun E hE => ?_
  have hta := hs.le
  ((repeat' (first | (refine awpL_step TT rfl rfl rfl sd ?_) | (refine awpL_nil ?_) | (refine awpL_skip rfl rfl ?_) | (refine awpQ_step TT rfl rfl rfl rfl sd ?_) | (refine awpQ_nil ?_) | (refine awpQ_skip rfl rfl ?_) | (refine awp_seq ?_) | (refine awp_region ?_) | (refine awp_block ?_) | (refine awp_exit ?_) | (refine awp_skip ?_) | (refine awp_ret ?_) | (refine awp_cond_t rfl ?_) | (refine awp_cond_f rfl ?_) | (refine awp_quiet TM rfl (by kernel_rfl) ?_) | ((first | refine awpL_split rfl rfl rfl (fun hc => ?_) (fun hc => ?_) | refine awpQ_split rfl rfl rfl (fun hc => ?_) (fun hc => ?_) | refine awp_cond rfl (fun hc => ?_) (fun hc => ?_)) <;> ((try simp at hc) <;> try contradiction)))) <;> try (exfalso; omega))
  refine awp_loop hE (fun i : Nat => i ≤ a) (fun i => a - i)
    (fun i => [(1, .one (.ptr 2 3 0 0)), (3, vI ((min i t : Nat) : Int)), (4, vI i)]) (fun _ => [(1, .ro (.ints xs)), (2, .own 27 1 (.lit [.int a, .int b, .sl 1 1 0 xs.length ca]))]) 3 [] 0 (Nat.zero_le _) ⟨⟨rfl, congrArg some (congrArg vI (by omega)), rfl, trivial⟩, ⟨rfl, rfl, trivial⟩, rfl⟩ ?_
  intro i hi
  by_cases hia : i < a
  · ((repeat' (first | (refine awpL_step TT rfl rfl rfl sd ?_) | (refine awpL_nil ?_) | (refine awpL_skip rfl rfl ?_) | (refine awpQ_step TT rfl rfl rfl rfl sd ?_) | (refine awpQ_nil ?_) | (refine awpQ_skip rfl rfl ?_) | (refine awp_seq ?_) | (refine awp_region ?_) | (refine awp_block ?_) | (refine awp_exit ?_) | (refine awp_skip ?_) | (refine awp_ret ?_) | (refine awp_cond_t rfl ?_) | (refine awp_cond_f rfl ?_) | (refine awp_quiet TM rfl (by kernel_rfl) ?_) | ((first | refine awpL_split rfl rfl rfl (fun hc => ?_) (fun hc => ?_) | refine awpQ_split rfl rfl rfl (fun hc => ?_) (fun hc => ?_) | refine awp_cond rfl (fun hc => ?_) (fun hc => ?_)) <;> ((try simp at hc) <;> try contradiction)))) <;> try (exfalso; omega))
    refine awp_loop hE (fun x : Nat × Nat => x.1 ≤ b ∧ ((x.2 = i + 1 ∧ ∃ k, k < b ∧ xs.getD (i * b + k) 0 ≠ 0) ∨ (x.2 = min i t ∧ ∀ k, k < x.1 → xs.getD (i * b + k) 0 = 0))) (fun x => b - x.1)
      (fun x => [(1, .one (.ptr 2 3 0 0)), (3, vI x.2), (4, vI i), (5, vI x.1)]) (fun _ => [(1, .ro (.ints xs)), (2, .own 27 1 (.lit [.int a, .int b, .sl 1 1 0 xs.length ca]))]) 3 [] (0, min i t) ⟨Nat.zero_le _, .inr ⟨rfl, fun k h => by omega⟩⟩ ⟨(by repeat' (first | exact trivial | refine ⟨rfl, ?_⟩ | refine ⟨congrArg some (congrArg vI (by first | omega | (simp; done) | (simp; omega))), ?_⟩ | refine ⟨sl_eqA (by first | omega | (simp; done) | (simp; omega)), ?_⟩)), (by repeat' (first | exact trivial | refine ⟨rfl, ?_⟩)), rfl⟩ ?_
    rintro ⟨q, f⟩ ⟨hq, hf⟩
    dsimp only at hq hf ⊢
    by_cases hqb : q < b
    · have hd := d_cellH a b i q xs.length ca xs rfl hx ha hb hia hqb
      have w1 : xs[i * b + q]?.getD 0 = xs.getD (i * b + q) 0 := by simp
      by_cases h0 : xs.getD (i * b + q) 0 = 0
      · ((repeat' (first | (refine awpL_step TT rfl rfl rfl sd ?_) | (refine awpL_nil ?_) | (refine awpL_skip rfl rfl ?_) | (refine awpQ_step TT rfl rfl rfl rfl sd ?_) | (refine awpQ_nil ?_) | (refine awpQ_skip rfl rfl ?_) | (refine awp_seq ?_) | (refine awp_region ?_) | (first | refine awpL_ret (hd) rfl rfl rfl rfl rfl rfl rfl rfl ft rfl rfl ?_ | refine awpQ_ret (hd) rfl rfl rfl rfl rfl rfl rfl rfl ft rfl rfl ?_ | refine awpHop_ret _ (hd) rfl rfl rfl rfl rfl rfl rfl rfl rfl ft rfl rfl sb rfl ?_) | (refine awp_block ?_) | (refine awp_exit ?_) | (refine awp_skip ?_) | (refine awp_ret ?_) | (refine awp_cond_t rfl ?_) | (refine awp_cond_f rfl ?_) | (refine awp_quiet TM rfl (by kernel_rfl) ?_) | ((first | refine awpL_split rfl rfl rfl (fun hc => ?_) (fun hc => ?_) | refine awpQ_split rfl rfl rfl (fun hc => ?_) (fun hc => ?_) | refine awp_cond rfl (fun hc => ?_) (fun hc => ?_)) <;> ((try simp at hc) <;> try contradiction)))) <;> try (exfalso; omega))
        all_goals exact ⟨[], (q + 1, f), ⟨hqb, hf.imp (fun h => h) fun ⟨h1, h2⟩ => ⟨h1, fun k hk => by
          dsimp only at hk
          rcases Nat.lt_or_ge k q with e | e
          · exact h2 k e
          · obtain rfl : k = q := by omega
            exact h0⟩⟩, (by first | omega | (dsimp only; omega)), ⟨(by repeat' (first | exact trivial | refine ⟨rfl, ?_⟩ | refine ⟨congrArg some (congrArg vI (by first | omega | (simp; done) | (simp; omega))), ?_⟩ | refine ⟨sl_eqA (by first | omega | (simp; done) | (simp; omega)), ?_⟩)), (by repeat' (first | exact trivial | refine ⟨rfl, ?_⟩)), rfl⟩⟩
      · ((repeat' (first | (refine awpL_step TT rfl rfl rfl sd ?_) | (refine awpL_nil ?_) | (refine awpL_skip rfl rfl ?_) | (refine awpQ_step TT rfl rfl rfl rfl sd ?_) | (refine awpQ_nil ?_) | (refine awpQ_skip rfl rfl ?_) | (refine awp_seq ?_) | (refine awp_region ?_) | (first | refine awpL_ret (hd) rfl rfl rfl rfl rfl rfl rfl rfl ft rfl rfl ?_ | refine awpQ_ret (hd) rfl rfl rfl rfl rfl rfl rfl rfl ft rfl rfl ?_ | refine awpHop_ret _ (hd) rfl rfl rfl rfl rfl rfl rfl rfl rfl ft rfl rfl sb rfl ?_) | (refine awp_block ?_) | (refine awp_exit ?_) | (refine awp_skip ?_) | (refine awp_ret ?_) | (refine awp_cond_t rfl ?_) | (refine awp_cond_f rfl ?_) | (refine awp_quiet TM rfl (by kernel_rfl) ?_) | ((first | refine awpL_split rfl rfl rfl (fun hc => ?_) (fun hc => ?_) | refine awpQ_split rfl rfl rfl (fun hc => ?_) (fun hc => ?_) | refine awp_cond rfl (fun hc => ?_) (fun hc => ?_)) <;> ((try simp at hc) <;> try contradiction)))) <;> try (exfalso; omega))
        all_goals exact ⟨[], (q + 1, i + 1), ⟨hqb, .inl ⟨rfl, q, hqb, h0⟩⟩, (by first | omega | (dsimp only; omega)), ⟨(by repeat' (first | exact trivial | refine ⟨rfl, ?_⟩ | refine ⟨congrArg some (congrArg vI (by first | omega | (simp; done) | (simp; omega))), ?_⟩ | refine ⟨sl_eqA (by first | omega | (simp; done) | (simp; omega)), ?_⟩)), (by repeat' (first | exact trivial | refine ⟨rfl, ?_⟩)), rfl⟩⟩
    · obtain rfl : q = b := by omega
      have hf' : f = min (i + 1) t := by
        rcases hf with ⟨h1, k, h2, h3⟩ | ⟨h1, h2⟩
        · have : ¬ t ≤ i := fun h => h3 (hs.no i k h hia h2)
          omega
        · by_cases h : t ≤ i
          · omega
          · obtain ⟨k, h3, h4⟩ := hs.yes i (by omega)
            exact absurd (h2 k h3) h4
      subst hf'
      ((repeat' (first | (refine awpL_step TT rfl rfl rfl sd ?_) | (refine awpL_nil ?_) | (refine awpL_skip rfl rfl ?_) | (refine awpQ_step TT rfl rfl rfl rfl sd ?_) | (refine awpQ_nil ?_) | (refine awpQ_skip rfl rfl ?_) | (refine awp_seq ?_) | (refine awp_region ?_) | (refine awp_block ?_) | (refine awp_exit ?_) | (refine awp_skip ?_) | (refine awp_ret ?_) | (refine awp_cond_t rfl ?_) | (refine awp_cond_f rfl ?_) | (refine awp_quiet TM rfl (by kernel_rfl) ?_) | ((first | refine awpL_split rfl rfl rfl (fun hc => ?_) (fun hc => ?_) | refine awpQ_split rfl rfl rfl (fun hc => ?_) (fun hc => ?_) | refine awp_cond rfl (fun hc => ?_) (fun hc => ?_)) <;> ((try simp at hc) <;> try contradiction)))) <;> try (exfalso; omega))
      all_goals exact ⟨[], i + 1, hia, (by first | omega | (dsimp only; omega)), ⟨(by repeat' (first | exact trivial | refine ⟨rfl, ?_⟩ | refine ⟨congrArg some (congrArg vI (by first | omega | (simp; done) | (simp; omega))), ?_⟩ | refine ⟨sl_eqA (by first | omega | (simp; done) | (simp; omega)), ?_⟩)), (by repeat' (first | exact trivial | refine ⟨rfl, ?_⟩)), rfl⟩⟩
  · obtain rfl : i = a := by omega
    have hm : min i t = t := by omega
    rw [hm]
    ((repeat' (first | (refine awpL_step TT rfl rfl rfl sd ?_) | (refine awpL_nil ?_) | (refine awpL_skip rfl rfl ?_) | (refine awpQ_step TT rfl rfl rfl rfl sd ?_) | (refine awpQ_nil ?_) | (refine awpQ_skip rfl rfl ?_) | (refine awp_seq ?_) | (refine awp_region ?_) | (refine awp_block ?_) | (refine awp_exit ?_) | (refine awp_skip ?_) | (refine awp_ret ?_) | (refine awp_cond_t rfl ?_) | (refine awp_cond_f rfl ?_) | (refine awp_quiet TM rfl (by kernel_rfl) ?_) | ((first | refine awpL_split rfl rfl rfl (fun hc => ?_) (fun hc => ?_) | refine awpQ_split rfl rfl rfl (fun hc => ?_) (fun hc => ?_) | refine awp_cond rfl (fun hc => ?_) (fun hc => ?_)) <;> ((try simp at hc) <;> try contradiction)))) <;> try (exfalso; omega))
    all_goals refine fin_ret rfl (by repeat' (first | exact trivial | exact Nat.zero_lt_one | omega | refine ⟨?_, ?_⟩)) (rfl) rfl
set_option maxHeartbeats 2000000 in
theorem d_basS (r c : Int) (xs : List Int) (ca : Nat) (hl : xs.length ≤ 1099511627776) : Does Try.prog 63 [vM r c 1 xs.length ca] [(1, .ro (.ints xs))] 2 (BasR 3 c (basO r c xs) 2) := by
  refine Does.intro TT Try.func63 rfl (by kernel_rfl) rfl rfl fun E hE => ?_
  have hh := d_hermS r c xs ca hl
  cases hm : isM r c xs
  · have hR : basO r c xs = none := by simp [basO, hm]
    have hR2 : hermO r c xs = none := by simp [hermO, hm]
    rw [hR]
    rw [hR2] at hh
    ((repeat' (first | (refine awpL_step TT rfl rfl rfl sd ?_) | (refine awpL_nil ?_) | (refine awpL_skip rfl rfl ?_) | (refine awpQ_step TT rfl rfl rfl rfl sd ?_) | (refine awpQ_nil ?_) | (refine awpQ_skip rfl rfl ?_) | (refine awp_seq ?_) | (refine awp_region ?_) | ((refine awpL_call (hh) rfl rfl rfl rfl rfl rfl rfl ft rfl ?_); rintro v Hout n1 ⟨rfl, rfl, rfl⟩) | (refine awp_block ?_) | (refine awp_exit ?_) | (refine awp_skip ?_) | (refine awp_ret ?_) | (refine awp_cond_t rfl ?_) | (refine awp_cond_f rfl ?_) | (refine awp_quiet TM rfl (by kernel_rfl) ?_) | ((first | refine awpL_split rfl rfl rfl (fun hc => ?_) (fun hc => ?_) | refine awpQ_split rfl rfl rfl (fun hc => ?_) (fun hc => ?_) | refine awp_cond rfl (fun hc => ?_) (fun hc => ?_)) <;> ((try simp at hc) <;> try contradiction)))) <;> try (exfalso; omega))
    all_goals exact fin rfl (by repeat' (first | exact trivial | exact Nat.zero_lt_one | omega | refine ⟨?_, ?_⟩)) [] (.tup [.agg zeroM, .one (.bool false)]) [] 2 ⟨rfl, rfl, rfl⟩ rfl ⟨trivial, trivial, rfl⟩ rfl
  · obtain ⟨a, b, rfl, rfl, ha, hb, hx, hnum⟩ := isM_dimsH hm
    have hR : basO a b xs = (hTo a b (xs, idTo a a) b).map fun st => (st.1.1.take (st.2 * b), st.2) := by simp [basO, hm]
    have hR2 : hermO a b xs = (hTo a b (xs, idTo a a) b).map (·.1) := by simp [hermO, hm]
    have o0 : OKs a b (xs, idTo a a) := ⟨hx, idTo_len, hnum, id_num⟩
    rw [hR]
    rw [hR2] at hh
    cases hT : hTo a b (xs, idTo a a) b with
    | none =>
      rw [hT] at hh
      dsimp only [Option.map_none] at hh ⊢
      ((repeat' (first | (refine awpL_step TT rfl rfl rfl sd ?_) | (refine awpL_nil ?_) | (refine awpL_skip rfl rfl ?_) | (refine awpQ_step TT rfl rfl rfl rfl sd ?_) | (refine awpQ_nil ?_) | (refine awpQ_skip rfl rfl ?_) | (refine awp_seq ?_) | (refine awp_region ?_) | ((refine awpL_call (hh) rfl rfl rfl rfl rfl rfl rfl ft rfl ?_); rintro v Hout n1 ⟨rfl, rfl, rfl⟩) | (refine awp_block ?_) | (refine awp_exit ?_) | (refine awp_skip ?_) | (refine awp_ret ?_) | (refine awp_cond_t rfl ?_) | (refine awp_cond_f rfl ?_) | (refine awp_quiet TM rfl (by kernel_rfl) ?_) | ((first | refine awpL_split rfl rfl rfl (fun hc => ?_) (fun hc => ?_) | refine awpQ_split rfl rfl rfl (fun hc => ?_) (fun hc => ?_) | refine awp_cond rfl (fun hc => ?_) (fun hc => ?_)) <;> ((try simp at hc) <;> try contradiction)))) <;> try (exfalso; omega))
      all_goals exact fin rfl (by repeat' (first | exact trivial | exact Nat.zero_lt_one | omega | refine ⟨?_, ?_⟩)) [] (.tup [.agg zeroM, .one (.bool false)]) [] 2 ⟨rfl, rfl, rfl⟩ rfl ⟨trivial, trivial, rfl⟩ rfl
    | some st =>
      obtain ⟨s, t⟩ := st
      rw [hT] at hh
      dsimp only [Option.map_some] at hh ⊢
      obtain ⟨o1, o2, o3⟩ := hTo_ok o0 hT
      obtain ⟨pv, hsh⟩ := hTo_shape o0 (Nat.le_refl _) hT
      have hsp := hsh.split o2
      dsimp only at o1 o2 hsp
      have l1 : s.1.length = a * b := o1.1
      have htb : t * b ≤ a * b := Nat.mul_le_mul_right _ o2
      have hab : a * b ≤ 24 * 24 := Nat.mul_le_mul ha hb
      have e1 : (t : Int) * b = ((t * b : Nat) : Int) := by simp
      have hmn : (s.1.take (t * b)).length = t * b := by rw [List.length_take]; omega
      have hr := fun cx => d_l12Rows a b t s.1.length cx s.1 rfl l1 ha hb hsp
      have hbd : 0 ≤ (t : Int) * b ∧ (t : Int) * b ≤ s.1.length := by omega
      have hnt : ((t : Int) * b).toNat = t * b := by omega
      ((repeat' (first | (refine awpL_step TT rfl rfl rfl sd ?_) | (refine awpL_nil ?_) | (refine awpL_skip rfl rfl ?_) | (refine awpQ_step TT rfl rfl rfl rfl sd ?_) | (refine awpQ_nil ?_) | (refine awpQ_skip rfl rfl ?_) | (refine awp_seq ?_) | (refine awp_region ?_) | ((refine awpL_call (hh) rfl rfl rfl rfl rfl rfl rfl ft rfl ?_); rintro v Hout n1 ⟨cx, cu, hcx, hcu, rfl, rfl, rfl⟩) | (first | refine awpL_ret (hr _) rfl rfl rfl rfl rfl rfl rfl rfl ft rfl rfl ?_ | refine awpQ_ret (hr _) rfl rfl rfl rfl rfl rfl rfl rfl ft rfl rfl ?_ | refine awpHop_ret _ (hr _) rfl rfl rfl rfl rfl rfl rfl rfl rfl ft rfl rfl sb rfl ?_) | (refine awp_block ?_) | (refine awp_exit ?_) | (refine awp_skip ?_) | (refine awp_ret ?_) | (refine awp_cond_t rfl ?_) | (refine awp_cond_f rfl ?_) | ((first | refine awpL_split rfl rfl rfl (fun hc => ?_) (fun hc => ?_) | refine awpQ_split rfl rfl rfl (fun hc => ?_) (fun hc => ?_) | refine awp_cond rfl (fun hc => ?_) (fun hc => ?_)) <;> ((try simp at hc) <;> try contradiction)))) <;> try (exfalso; omega))
      refine awp_held TM [(6, _)] sb rfl (fun ρs => ?_)
      refine awpH_take TT 0 rfl kr kr kr nh rfl rfl rfl rfl sd ?_
      refine awpH_take TT 1 rfl kr kr kr nh rfl rfl rfl rfl sd ?_
      refine awpH_take TT 2 rfl kr kr kr nh rfl rfl rfl rfl sd ?_
      refine awpH_take TT 4 rfl kr kr kr nh rfl rfl rfl rfl sd ?_
      refine awpH_take TT 5 rfl kr kr kr nh rfl rfl rfl rfl sd ?_
      refine awpH_take TT 6 rfl kr kr kr nh rfl rfl rfl rfl sd ?_
      refine awpH_take TT 7 rfl kr kr kr nh rfl rfl rfl rfl sd ?_
      refine awpH_take TT 8 rfl kr kr kr nh rfl rfl rfl rfl sd ?_
      refine awpH_take TT 9 rfl kr kr kr nh rfl rfl rfl rfl sd ?_
      refine awpH_take TT 10 rfl kr kr kr nh rfl rfl rfl rfl sd ?_
      refine awpH_all [3] kr rfl ⟨?_, trivial⟩
      first | (refine awpHop_step TT 3 rfl rfl rfl rfl sd sb rfl ?_) | (first | (refine awpL_append TT rfl rfl rfl rfl rfl sd ?_; intro cap hcap) | (refine awpHop_append TT _ rfl rfl rfl rfl rfl rfl sd sb rfl rfl ?_; intro cap hcap))
      refine awpH_all [11] kr rfl ⟨?_, trivial⟩
      first | (refine awpHop_step TT 11 rfl rfl rfl rfl sd sb rfl ?_) | (first | (refine awpL_append TT rfl rfl rfl rfl rfl sd ?_; intro cap hcap) | (refine awpHop_append TT _ rfl rfl rfl rfl rfl rfl sd sb rfl rfl ?_; intro cap hcap))
      refine awpH_take TT 12 rfl kr kr kr nh rfl rfl rfl rfl sd ?_
      refine awpH_all [13] kr rfl ⟨?_, trivial⟩
      first | (refine awpHop_step TT 13 rfl rfl rfl rfl sd sb rfl ?_) | (first | (refine awpL_append TT rfl rfl rfl rfl rfl sd ?_; intro cap hcap) | (refine awpHop_append TT _ rfl rfl rfl rfl rfl rfl sd sb rfl rfl ?_; intro cap hcap))
      refine awpH_take TT 14 rfl kr kr kr nh rfl rfl rfl rfl sd ?_
      refine awpH_done kr ?_
      rotate_left
      all_goals ((repeat' (first | (refine awpL_step TT rfl rfl rfl sd ?_) | (refine awpL_nil ?_) | (refine awpL_skip rfl rfl ?_) | (refine awpQ_step TT rfl rfl rfl rfl sd ?_) | (refine awpQ_nil ?_) | (refine awpQ_skip rfl rfl ?_) | (refine awp_seq ?_) | (refine awp_region ?_) | (refine awp_block ?_) | (refine awp_exit ?_) | (refine awp_skip ?_) | (refine awp_ret ?_) | (refine awp_cond_t rfl ?_) | (refine awp_cond_f rfl ?_) | ((first | refine awpL_split rfl rfl rfl (fun hc => ?_) (fun hc => ?_) | refine awpQ_split rfl rfl rfl (fun hc => ?_) (fun hc => ?_) | refine awp_cond rfl (fun hc => ?_) (fun hc => ?_)) <;> ((try simp at hc) <;> try contradiction)))) <;> try (exfalso; omega))
      have hlen : 0 + ((t : Int) * b).toNat = (s.1.take (t * b)).length := by omega
      exact fin rfl (by repeat' (first | exact trivial | exact Nat.zero_lt_one | omega | refine ⟨?_, ?_⟩)) [(2, 9)] (.tup [.agg [.int t, .int b, .sl 2 1 0 (s.1.take (t * b)).length cap], .one (.bool true)]) [(2, .own 3 cap (.ints (s.1.take (t * b))))] 3 ⟨cap, by dsimp only; omega, rfl, rfl, rfl⟩ (by rw [← hlen]; rfl) ⟨trivial, ⟨own_ints (by rw [hnt]; simp), trivial⟩, rfl⟩ rfl
def FoundO (xs : List Int) (off n : Nat) (v : AV) (Hout : List (Nat × Blk)) (n1 : Nat) : Prop := ∃ j : Int, v = vI j ∧ Hout = [] ∧ n1 = 2 ∧ ((zoP xs off n ∧ j < 0) ∨ (¬ zoP xs off n ∧ 0 ≤ j))
theorem d_nonZeroB (n : Int) : Does Try.prog 107 [vI n] [] 1 (Ret (vB (decide (n ≠ 0))) 1) := by
  refine Does.intro TT Try.func107 rfl (by kernel_rfl) rfl rfl fun E hE => ?_
  (repeat' (first | (refine awpL_step TT rfl rfl rfl sd ?_) | (refine awpL_nil ?_) | (refine awpL_skip rfl rfl ?_) | (refine awpQ_step TT rfl rfl rfl rfl sd ?_) | (refine awpQ_nil ?_) | (refine awpQ_skip rfl rfl ?_) | (refine awp_seq ?_) | (refine awp_region ?_) | (refine awp_block ?_) | (refine awp_exit ?_) | (refine awp_skip ?_) | (refine awp_ret ?_) | (refine awp_cond_t rfl ?_) | (refine awp_cond_f rfl ?_) | (refine awp_quiet TM rfl (by kernel_rfl) ?_) | ((first | refine awpL_split rfl rfl rfl (fun hc => ?_) (fun hc => ?_) | refine awpQ_split rfl rfl rfl (fun hc => ?_) (fun hc => ?_) | refine awp_cond rfl (fun hc => ?_) (fun hc => ?_)) <;> ((try simp at hc) <;> try contradiction))))
  refine fin_ret rfl (by repeat' (first | exact trivial | exact Nat.zero_lt_one | omega | refine ⟨?_, ?_⟩)) (rfl) rfl
theorem d_indexO (xs : List Int) (off n c : Nat) (hl : off + n ≤ xs.length) (hx : xs.length ≤ 1099511627776) : Does Try.prog 115 [vS 1 1 off n c, .one (.fn 107 [])] [(1, .ro (.ints xs))] 2 (FoundO xs off n) := by
  refine Does.intro TT Try.func115 rfl (by kernel_rfl) rfl rfl fun E hE => ?_
  (repeat' (first | (refine awpL_step TT rfl rfl rfl sd ?_) | (refine awpL_nil ?_) | (refine awpL_skip rfl rfl ?_) | (refine awpQ_step TT rfl rfl rfl rfl sd ?_) | (refine awpQ_nil ?_) | (refine awpQ_skip rfl rfl ?_) | (refine awp_seq ?_) | (refine awp_region ?_) | (refine awp_block ?_) | (refine awp_exit ?_) | (refine awp_skip ?_) | (refine awp_ret ?_) | (refine awp_cond_t rfl ?_) | (refine awp_cond_f rfl ?_) | (refine awp_quiet TM rfl (by kernel_rfl) ?_) | ((first | refine awpL_split rfl rfl rfl (fun hc => ?_) (fun hc => ?_) | refine awpQ_split rfl rfl rfl (fun hc => ?_) (fun hc => ?_) | refine awp_cond rfl (fun hc => ?_) (fun hc => ?_)) <;> ((try simp at hc) <;> try contradiction))))
  refine awp_loop hE (fun k : Nat => k ≤ n ∧ ∀ i, i < k → xs.getD (off + i) 0 = 0) (fun k => n - k)
    (fun k => [(0, vS 1 1 off n c), (1, .one (.fn 107 [])), (7, vI n), (8, vI k)]) (fun _ => [(1, .ro (.ints xs))]) 2 [] 0 ⟨Nat.zero_le _, fun i hi => by omega⟩ ⟨(by repeat' (first | exact trivial | refine ⟨rfl, ?_⟩ | refine ⟨congrArg some (congrArg vI (by first | omega | (simp; done) | (simp; omega))), ?_⟩ | refine ⟨sl_eqA (by first | omega | (simp; done) | (simp; omega)), ?_⟩)), (by repeat' (first | exact trivial | refine ⟨rfl, ?_⟩)), rfl⟩ ?_
  rintro k ⟨h1, h2⟩
  have e := off_nat (off := off) (k := k)
  ((repeat' (first | (refine awpL_step TT rfl rfl rfl sd ?_) | (refine awpL_nil ?_) | (refine awpL_skip rfl rfl ?_) | (refine awpQ_step TT rfl rfl rfl rfl sd ?_) | (refine awpQ_nil ?_) | (refine awpQ_skip rfl rfl ?_) | (refine awp_seq ?_) | (refine awp_region ?_) | (first | refine awpL_ret (d_nonZeroB _) rfl rfl rfl rfl rfl rfl rfl rfl ft rfl rfl ?_ | refine awpQ_ret (d_nonZeroB _) rfl rfl rfl rfl rfl rfl rfl rfl ft rfl rfl ?_ | refine awpHop_ret _ (d_nonZeroB _) rfl rfl rfl rfl rfl rfl rfl rfl rfl ft rfl rfl sb rfl ?_) | (refine awp_block ?_) | (refine awp_exit ?_) | (refine awp_skip ?_) | (refine awp_ret ?_) | (refine awp_cond_t rfl ?_) | (refine awp_cond_f rfl ?_) | (refine awp_quiet TM rfl (by kernel_rfl) ?_) | ((first | refine awpL_split rfl rfl rfl (fun hc => ?_) (fun hc => ?_) | refine awpQ_split rfl rfl rfl (fun hc => ?_) (fun hc => ?_) | refine awp_cond rfl (fun hc => ?_) (fun hc => ?_)) <;> ((try simp at hc) <;> try contradiction)))) <;> try (exfalso; omega))
  · have hz : xs.getD (off + k) 0 ≠ 0 := by rw [List.getD_eq_getElem?_getD]; simpa using hc
    have hkn : k < n := by assumption
    exact fin rfl (by repeat' (first | exact trivial | exact Nat.zero_lt_one | omega | refine ⟨?_, ?_⟩)) [] (vI k) [] 2 ⟨_, rfl, rfl, rfl, .inr ⟨fun h => hz (h k hkn), by omega⟩⟩ rfl ⟨trivial, trivial, rfl⟩ rfl
  · have hz : xs.getD (off + k) 0 = 0 := by rw [List.getD_eq_getElem?_getD]; simpa using hc
    refine ⟨[], k + 1, ⟨by omega, fun i hi => ?_⟩, (by first | omega | (dsimp only; omega)), ⟨(by repeat' (first | exact trivial | refine ⟨rfl, ?_⟩ | refine ⟨congrArg some (congrArg vI (by first | omega | (simp; done) | (simp; omega))), ?_⟩ | refine ⟨sl_eqA (by first | omega | (simp; done) | (simp; omega)), ?_⟩)), (by repeat' (first | exact trivial | refine ⟨rfl, ?_⟩)), rfl⟩⟩
    rcases Nat.lt_or_ge i k with q | q
    · exact h2 i q
    · obtain rfl : i = k := by omega
      exact hz
  · obtain rfl : k = n := by omega
    exact fin rfl (by repeat' (first | exact trivial | exact Nat.zero_lt_one | omega | refine ⟨?_, ?_⟩)) [] (vI (-1)) [] 2 ⟨_, rfl, rfl, rfl, .inl ⟨h2, by omega⟩⟩ rfl ⟨trivial, trivial, rfl⟩ rfl
theorem d_containsO (xs : List Int) (off n c : Nat) (hl : off + n ≤ xs.length) (hx : xs.length ≤ 1099511627776) : Does Try.prog 106 [vS 1 1 off n c, .one (.fn 107 [])] [(1, .ro (.ints xs))] 2 (Ret (vB (!decide (zoP xs off n))) 2) := by
  refine Does.intro TT Try.func106 rfl (by kernel_rfl) rfl rfl fun E hE => ?_
  (repeat' (first | (refine awpL_step TT rfl rfl rfl sd ?_) | (refine awpL_nil ?_) | (refine awpL_skip rfl rfl ?_) | (refine awpQ_step TT rfl rfl rfl rfl sd ?_) | (refine awpQ_nil ?_) | (refine awpQ_skip rfl rfl ?_) | (refine awp_seq ?_) | (refine awp_region ?_) | ((refine awpL_call (d_indexO _ _ _ _ hl hx) rfl rfl rfl rfl rfl rfl rfl ft rfl ?_); rintro v Hout n1 ⟨j, rfl, rfl, rfl, hj⟩) | (refine awp_block ?_) | (refine awp_exit ?_) | (refine awp_skip ?_) | (refine awp_ret ?_) | (refine awp_cond_t rfl ?_) | (refine awp_cond_f rfl ?_) | (refine awp_quiet TM rfl (by kernel_rfl) ?_) | ((first | refine awpL_split rfl rfl rfl (fun hc => ?_) (fun hc => ?_) | refine awpQ_split rfl rfl rfl (fun hc => ?_) (fun hc => ?_) | refine awp_cond rfl (fun hc => ?_) (fun hc => ?_)) <;> ((try simp at hc) <;> try contradiction))))
  refine fin_ret rfl (by repeat' (first | exact trivial | exact Nat.zero_lt_one | omega | refine ⟨?_, ?_⟩)) (congrArg vB ?_) rfl
  rcases hj with ⟨h1, h2⟩ | ⟨h1, h2⟩
  · rw [decide_eq_true h1, decide_eq_false (by omega)]; rfl
  · rw [decide_eq_false h1, decide_eq_true h2]; rfl
theorem d_zeroO (xs : List Int) (off n c : Nat) (hl : off + n ≤ xs.length) (hx : xs.length ≤ 1099511627776) : Does Try.prog 62 [vS 1 1 off n c] [(1, .ro (.ints xs))] 2 (Ret (vB (decide (zoP xs off n))) 2) := by
  refine Does.intro TT Try.func62 rfl (by kernel_rfl) rfl rfl fun E hE => ?_
  (repeat' (first | (refine awpL_step TT rfl rfl rfl sd ?_) | (refine awpL_nil ?_) | (refine awpL_skip rfl rfl ?_) | (refine awpQ_step TT rfl rfl rfl rfl sd ?_) | (refine awpQ_nil ?_) | (refine awpQ_skip rfl rfl ?_) | (refine awp_seq ?_) | (refine awp_region ?_) | (first | refine awpL_ret (d_containsO _ _ _ _ hl hx) rfl rfl rfl rfl rfl rfl rfl rfl ft rfl rfl ?_ | refine awpQ_ret (d_containsO _ _ _ _ hl hx) rfl rfl rfl rfl rfl rfl rfl rfl ft rfl rfl ?_ | refine awpHop_ret _ (d_containsO _ _ _ _ hl hx) rfl rfl rfl rfl rfl rfl rfl rfl rfl ft rfl rfl sb rfl ?_) | (refine awp_block ?_) | (refine awp_exit ?_) | (refine awp_skip ?_) | (refine awp_ret ?_) | (refine awp_cond_t rfl ?_) | (refine awp_cond_f rfl ?_) | (refine awp_quiet TM rfl (by kernel_rfl) ?_) | ((first | refine awpL_split rfl rfl rfl (fun hc => ?_) (fun hc => ?_) | refine awpQ_split rfl rfl rfl (fun hc => ?_) (fun hc => ?_) | refine awp_cond rfl (fun hc => ?_) (fun hc => ?_)) <;> ((try simp at hc) <;> try contradiction))))
  refine fin_ret rfl (by repeat' (first | exact trivial | exact Nat.zero_lt_one | omega | refine ⟨?_, ?_⟩)) (congrArg vB (Bool.not_not _)) rfl
theorem natsI_snoc {i : Nat} : natsI (List.range (i + 1)) = natsI (List.range i) ++ [(i : Int)] := by simp [natsI, List.range_succ]
def SplitR (ti : TypeId) (t : Nat) (v : AV) (Hout : List (Nat × Blk)) (n1 : Nat) : Prop := ∃ (c1 c2 : Nat) (zs : List Int), t ≤ c1 ∧ v = .tup [.one (.sl 2 1 0 t c1), .one (.sl 3 1 0 zs.length c2)] ∧ Hout = [(2, .own ti c1 (.ints (natsI (List.range t)))), (3, .own ti c2 (.ints zs))] ∧ n1 = 4
set_option maxHeartbeats 2000000 in
theorem d_splitRows (a b t n ca : Nat) (xs : List Int) (hn : n = xs.length) (hx : xs.length = a * b) (hca : xs.length ≤ ca) (ha : a ≤ 24) (hb : b ≤ 24) (hs : Split a b t xs) : Does Try.prog 114 [vM a b 1 n ca] [(1, .ro (.ints xs))] 2 (SplitR 3 t) := by
  subst hn
  refine Does.intro TT Try.func114 rfl (by kernel_rfl) rfl rfl fun E hE => ?_
  have hta := hs.le
  have hab : a * b ≤ 24 * 24 := Nat.mul_le_mul ha hb
  ((repeat' (first | (refine awpL_step TT rfl rfl rfl sd ?_) | (refine awpL_nil ?_) | (refine awpL_skip rfl rfl ?_) | (refine awpQ_step TT rfl rfl rfl rfl sd ?_) | (refine awpQ_nil ?_) | (refine awpQ_skip rfl rfl ?_) | (refine awp_seq ?_) | (refine awp_region ?_) | (refine awp_block ?_) | (refine awp_exit ?_) | (refine awp_skip ?_) | (refine awp_ret ?_) | (refine awp_cond_t rfl ?_) | (refine awp_cond_f rfl ?_) | (refine awp_quiet TM rfl (by kernel_rfl) ?_) | ((first | refine awpL_split rfl rfl rfl (fun hc => ?_) (fun hc => ?_) | refine awpQ_split rfl rfl rfl (fun hc => ?_) (fun hc => ?_) | refine awp_cond rfl (fun hc => ?_) (fun hc => ?_)) <;> ((try simp at hc) <;> try contradiction)))) <;> try (exfalso; omega))
  refine awp_loop hE (fun x : Nat × Nat × Nat × List Int => x.1 ≤ a ∧ min x.1 t ≤ x.2.1 ∧ x.2.2.2.length ≤ x.2.2.1 ∧ x.2.2.2.length ≤ x.1) (fun x => a - x.1)
    (fun x => [(1, .one (.ptr 4 3 0 0)), (4, vS 2 1 0 (min x.1 t) x.2.1), (5, vS 3 1 0 x.2.2.2.length x.2.2.1), (6, vI x.1)]) (fun x => [(1, .ro (.ints xs)), (2, .own 3 x.2.1 (.ints (natsI (List.range (min x.1 t))))), (3, .own 3 x.2.2.1 (.ints x.2.2.2)), (4, .own 27 1 (.lit [.int a, .int b, .sl 1 1 0 xs.length ca]))]) 5 [(2, 3), (3, 4), (4, 2)] (0, 0, 0, []) ⟨Nat.zero_le _, by simp, Nat.zero_le _, Nat.le_refl _⟩ ⟨⟨rfl, sl_eqA (by simp), rfl, rfl, trivial⟩, ⟨rfl, own_ints (by simp [natsI]), rfl, rfl, trivial⟩, rfl⟩ ?_
  rintro ⟨i, c1, c2, zs⟩ ⟨hi, h1, h2, h3⟩
  dsimp only at hi h1 h2 h3 ⊢
  have hnl : (natsI (List.range (min i t))).length = min i t := by rw [natsI_len, List.length_range]
  by_cases hia : i < a
  · have hin := row_in (c := b) hia
    have hz := fun c => d_zeroO xs (i * b) b c (by omega) (by omega)
    rw [hs.zo hia] at hz
    by_cases hti : t ≤ i
    · have e1 : min i t = t := by omega
      have e2 : min (i + 1) t = t := by omega
      rw [decide_eq_true hti] at hz
      rw [e1] at hnl h1
      rw [e1]
      ((repeat' (first | (refine awpL_step TT rfl rfl rfl sd ?_) | (refine awpL_nil ?_) | (refine awpL_skip rfl rfl ?_) | (refine awpQ_step TT rfl rfl rfl rfl sd ?_) | (refine awpQ_nil ?_) | (refine awpQ_skip rfl rfl ?_) | (refine awp_seq ?_) | (refine awp_region ?_) | ((refine awpL_call (d_rowAt a b i xs.length ca xs rfl hx hca ha hb hia) rfl rfl rfl rfl rfl rfl rfl ft rfl ?_); rintro v Hout n1 ⟨cp, rfl, rfl, rfl⟩) | (first | refine awpL_ret (hz _) rfl rfl rfl rfl rfl rfl rfl rfl ft rfl rfl ?_ | refine awpQ_ret (hz _) rfl rfl rfl rfl rfl rfl rfl rfl ft rfl rfl ?_ | refine awpHop_ret _ (hz _) rfl rfl rfl rfl rfl rfl rfl rfl rfl ft rfl rfl sb rfl ?_) | (first | (refine awpL_append TT rfl rfl rfl rfl rfl sd ?_; intro cap hcap) | (refine awpHop_append TT _ rfl rfl rfl rfl rfl rfl sd sb rfl rfl ?_; intro cap hcap)) | (refine awp_block ?_) | (refine awp_exit ?_) | (refine awp_skip ?_) | (refine awp_ret ?_) | (refine awp_cond_t rfl ?_) | (refine awp_cond_f rfl ?_) | (refine awp_quiet TM rfl (by kernel_rfl) ?_) | ((first | refine awpL_split rfl rfl rfl (fun hc => ?_) (fun hc => ?_) | refine awpQ_split rfl rfl rfl (fun hc => ?_) (fun hc => ?_) | refine awp_cond rfl (fun hc => ?_) (fun hc => ?_)) <;> ((try simp at hc) <;> try contradiction)))) <;> try (exfalso; omega))
      refine ⟨[(3, 6)], (i + 1, c1, cap, zs ++ [(i : Int)]), ⟨hia, by dsimp only; omega, by simp; omega, by simp; omega⟩, (by first | omega | (dsimp only; omega)), ⟨⟨rfl, sl_eqA (by dsimp only; omega), sl_eqA (by simp), congrArg some (congrArg vI (by dsimp only; omega)), trivial⟩, ⟨rfl, own_ints (by dsimp only; rw [e2]), own_ints (by simp), rfl, trivial⟩, rfl⟩⟩
    · have e1 : min i t = i := by omega
      have e2 : min (i + 1) t = i + 1 := by omega
      rw [decide_eq_false hti] at hz
      rw [e1] at hnl h1
      rw [e1]
      ((repeat' (first | (refine awpL_step TT rfl rfl rfl sd ?_) | (refine awpL_nil ?_) | (refine awpL_skip rfl rfl ?_) | (refine awpQ_step TT rfl rfl rfl rfl sd ?_) | (refine awpQ_nil ?_) | (refine awpQ_skip rfl rfl ?_) | (refine awp_seq ?_) | (refine awp_region ?_) | ((refine awpL_call (d_rowAt a b i xs.length ca xs rfl hx hca ha hb hia) rfl rfl rfl rfl rfl rfl rfl ft rfl ?_); rintro v Hout n1 ⟨cp, rfl, rfl, rfl⟩) | (first | refine awpL_ret (hz _) rfl rfl rfl rfl rfl rfl rfl rfl ft rfl rfl ?_ | refine awpQ_ret (hz _) rfl rfl rfl rfl rfl rfl rfl rfl ft rfl rfl ?_ | refine awpHop_ret _ (hz _) rfl rfl rfl rfl rfl rfl rfl rfl rfl ft rfl rfl sb rfl ?_) | (first | (refine awpL_append TT rfl rfl rfl rfl rfl sd ?_; intro cap hcap) | (refine awpHop_append TT _ rfl rfl rfl rfl rfl rfl sd sb rfl rfl ?_; intro cap hcap)) | (refine awp_block ?_) | (refine awp_exit ?_) | (refine awp_skip ?_) | (refine awp_ret ?_) | (refine awp_cond_t rfl ?_) | (refine awp_cond_f rfl ?_) | (refine awp_quiet TM rfl (by kernel_rfl) ?_) | ((first | refine awpL_split rfl rfl rfl (fun hc => ?_) (fun hc => ?_) | refine awpQ_split rfl rfl rfl (fun hc => ?_) (fun hc => ?_) | refine awp_cond rfl (fun hc => ?_) (fun hc => ?_)) <;> ((try simp at hc) <;> try contradiction)))) <;> try (exfalso; omega))
      refine ⟨[(2, 6)], (i + 1, cap, c2, zs), ⟨hia, by dsimp only; omega, h2, by dsimp only; omega⟩, (by first | omega | (dsimp only; omega)), ⟨⟨rfl, sl_eqA (by dsimp only; omega), rfl, congrArg some (congrArg vI (by dsimp only; omega)), trivial⟩, ⟨rfl, own_ints (by dsimp only; rw [e2, natsI_snoc]; rfl), rfl, rfl, trivial⟩, rfl⟩⟩
  · obtain rfl : i = a := by omega
    have e1 : min i t = t := by omega
    rw [e1] at h1
    rw [e1]
    ((repeat' (first | (refine awpL_step TT rfl rfl rfl sd ?_) | (refine awpL_nil ?_) | (refine awpL_skip rfl rfl ?_) | (refine awpQ_step TT rfl rfl rfl rfl sd ?_) | (refine awpQ_nil ?_) | (refine awpQ_skip rfl rfl ?_) | (refine awp_seq ?_) | (refine awp_region ?_) | (refine awp_block ?_) | (refine awp_exit ?_) | (refine awp_skip ?_) | (refine awp_ret ?_) | (refine awp_cond_t rfl ?_) | (refine awp_cond_f rfl ?_) | (refine awp_quiet TM rfl (by kernel_rfl) ?_) | ((first | refine awpL_split rfl rfl rfl (fun hc => ?_) (fun hc => ?_) | refine awpQ_split rfl rfl rfl (fun hc => ?_) (fun hc => ?_) | refine awp_cond rfl (fun hc => ?_) (fun hc => ?_)) <;> ((try simp at hc) <;> try contradiction)))) <;> try (exfalso; omega))
    exact fin rfl (by repeat' (first | exact trivial | exact Nat.zero_lt_one | omega | refine ⟨?_, ?_⟩)) [] (.tup [.one (.sl 2 1 0 t c1), .one (.sl 3 1 0 zs.length c2)]) [(2, .own 3 c1 (.ints (natsI (List.range t)))), (3, .own 3 c2 (.ints zs))] 4 ⟨c1, c2, zs, h1, rfl, rfl, rfl⟩ rfl ⟨trivial, ⟨rfl, rfl, trivial⟩, rfl⟩ rfl
theorem pickR_range {xs : List Int} {c : Nat} : ∀ t : Nat, pickR xs c (List.range t) = xs.take (t * c)
  | 0 => by simp [pickR]
  | t + 1 => by
    have ih := pickR_range (xs := xs) (c := c) t
    rw [List.range_succ]
    simp only [pickR, List.flatMap_append, List.flatMap_cons, List.flatMap_nil, List.append_nil] at ih ⊢
    rw [ih, Nat.succ_mul, List.take_add]
set_option maxHeartbeats 2000000 in
theorem d_basI (r c : Int) (xs : List Int) (ca : Nat) (hl : xs.length ≤ 1099511627776) : Does Try.prog 71 [vM r c 1 xs.length ca] [(1, .ro (.ints xs))] 2 (BasR 3 c (basO r c xs) 2) := by
  refine Does.intro TT Try.func71 rfl (by kernel_rfl) rfl rfl fun E hE => ?_
  have hh := d_hermI r c xs ca hl
  cases hm : isM r c xs
  · have hR : basO r c xs = none := by simp [basO, hm]
    have hR2 : hermO r c xs = none := by simp [hermO, hm]
    rw [hR]
    rw [hR2] at hh
    ((repeat' (first | (refine awpL_step TT rfl rfl rfl sd ?_) | (refine awpL_nil ?_) | (refine awpL_skip rfl rfl ?_) | (refine awpQ_step TT rfl rfl rfl rfl sd ?_) | (refine awpQ_nil ?_) | (refine awpQ_skip rfl rfl ?_) | (refine awp_seq ?_) | (refine awp_region ?_) | ((refine awpL_call (hh) rfl rfl rfl rfl rfl rfl rfl ft rfl ?_); rintro v Hout n1 ⟨rfl, rfl, rfl⟩) | (refine awp_block ?_) | (refine awp_exit ?_) | (refine awp_skip ?_) | (refine awp_ret ?_) | (refine awp_cond_t rfl ?_) | (refine awp_cond_f rfl ?_) | (refine awp_quiet TM rfl (by kernel_rfl) ?_) | ((first | refine awpL_split rfl rfl rfl (fun hc => ?_) (fun hc => ?_) | refine awpQ_split rfl rfl rfl (fun hc => ?_) (fun hc => ?_) | refine awp_cond rfl (fun hc => ?_) (fun hc => ?_)) <;> ((try simp at hc) <;> try contradiction)))) <;> try (exfalso; omega))
    all_goals exact fin rfl (by repeat' (first | exact trivial | exact Nat.zero_lt_one | omega | refine ⟨?_, ?_⟩)) [] (.tup [.agg zeroM, .one (.bool false)]) [] 2 ⟨rfl, rfl, rfl⟩ rfl ⟨trivial, trivial, rfl⟩ rfl
  · obtain ⟨a, b, rfl, rfl, ha, hb, hx, hnum⟩ := isM_dimsH hm
    have hR : basO a b xs = (hTo a b (xs, idTo a a) b).map fun st => (st.1.1.take (st.2 * b), st.2) := by simp [basO, hm]
    have hR2 : hermO a b xs = (hTo a b (xs, idTo a a) b).map (·.1) := by simp [hermO, hm]
    have o0 : OKs a b (xs, idTo a a) := ⟨hx, idTo_len, hnum, id_num⟩
    rw [hR]
    rw [hR2] at hh
    cases hT : hTo a b (xs, idTo a a) b with
    | none =>
      rw [hT] at hh
      dsimp only [Option.map_none] at hh ⊢
      ((repeat' (first | (refine awpL_step TT rfl rfl rfl sd ?_) | (refine awpL_nil ?_) | (refine awpL_skip rfl rfl ?_) | (refine awpQ_step TT rfl rfl rfl rfl sd ?_) | (refine awpQ_nil ?_) | (refine awpQ_skip rfl rfl ?_) | (refine awp_seq ?_) | (refine awp_region ?_) | ((refine awpL_call (hh) rfl rfl rfl rfl rfl rfl rfl ft rfl ?_); rintro v Hout n1 ⟨rfl, rfl, rfl⟩) | (refine awp_block ?_) | (refine awp_exit ?_) | (refine awp_skip ?_) | (refine awp_ret ?_) | (refine awp_cond_t rfl ?_) | (refine awp_cond_f rfl ?_) | (refine awp_quiet TM rfl (by kernel_rfl) ?_) | ((first | refine awpL_split rfl rfl rfl (fun hc => ?_) (fun hc => ?_) | refine awpQ_split rfl rfl rfl (fun hc => ?_) (fun hc => ?_) | refine awp_cond rfl (fun hc => ?_) (fun hc => ?_)) <;> ((try simp at hc) <;> try contradiction)))) <;> try (exfalso; omega))
      all_goals exact fin rfl (by repeat' (first | exact trivial | exact Nat.zero_lt_one | omega | refine ⟨?_, ?_⟩)) [] (.tup [.agg zeroM, .one (.bool false)]) [] 2 ⟨rfl, rfl, rfl⟩ rfl ⟨trivial, trivial, rfl⟩ rfl
    | some st =>
      obtain ⟨s, t⟩ := st
      rw [hT] at hh
      dsimp only [Option.map_some] at hh ⊢
      obtain ⟨o1, o2, o3⟩ := hTo_ok o0 hT
      obtain ⟨pv, hsh⟩ := hTo_shape o0 (Nat.le_refl _) hT
      have hsp := hsh.split o2
      dsimp only at o1 o2 hsp
      have l1 : s.1.length = a * b := o1.1
      have hab : a * b ≤ 24 * 24 := Nat.mul_le_mul ha hb
      have hspl := fun cx h => d_splitRows a b t s.1.length cx s.1 rfl l1 h ha hb hsp
      have htk := fun cx cp h => d_takeRows a b s.1 (List.range t) cx cp s.1.length t rfl (by rw [List.length_range]) l1 h ha hb (fun i hi => by rw [List.mem_range] at hi; omega) (by rw [List.length_range]; omega)
      rw [pickR_range, List.length_range] at htk
      ((repeat' (first | (refine awpL_step TT rfl rfl rfl sd ?_) | (refine awpL_nil ?_) | (refine awpL_skip rfl rfl ?_) | (refine awpQ_step TT rfl rfl rfl rfl sd ?_) | (refine awpQ_nil ?_) | (refine awpQ_skip rfl rfl ?_) | (refine awp_seq ?_) | (refine awp_region ?_) | ((refine awpL_call (hh) rfl rfl rfl rfl rfl rfl rfl ft rfl ?_); rintro v Hout n1 ⟨cx, cu, hcx, hcu, rfl, rfl, rfl⟩) | ((refine awpL_call (hspl _ hcx) rfl rfl rfl rfl rfl rfl rfl ft rfl ?_); rintro v Hout n1 ⟨e1, e2, zs, he1, rfl, rfl, rfl⟩) | ((refine awpL_call (htk _ _ hcx) rfl rfl rfl rfl rfl rfl rfl ft rfl ?_); rintro v Hout n1 ⟨cap, hcap, rfl, rfl, rfl⟩) | (refine awp_block ?_) | (refine awp_exit ?_) | (refine awp_skip ?_) | (refine awp_ret ?_) | (refine awp_cond_t rfl ?_) | (refine awp_cond_f rfl ?_) | (refine awp_quiet TM rfl (by kernel_rfl) ?_) | ((first | refine awpL_split rfl rfl rfl (fun hc => ?_) (fun hc => ?_) | refine awpQ_split rfl rfl rfl (fun hc => ?_) (fun hc => ?_) | refine awp_cond rfl (fun hc => ?_) (fun hc => ?_)) <;> ((try simp at hc) <;> try contradiction)))) <;> try (exfalso; omega))
      exact fin rfl (by repeat' (first | exact trivial | exact Nat.zero_lt_one | omega | refine ⟨?_, ?_⟩)) [(2, 10)] (.tup [.agg [.int t, .int b, .sl 2 1 0 (s.1.take (t * b)).length cap], .one (.bool true)]) [(2, .own 3 cap (.ints (s.1.take (t * b))))] 3 ⟨cap, hcap, rfl, rfl, rfl⟩ rfl ⟨trivial, ⟨rfl, trivial⟩, rfl⟩ rfl
end Go.Proofs.Ytmkoifmokdmebaa
