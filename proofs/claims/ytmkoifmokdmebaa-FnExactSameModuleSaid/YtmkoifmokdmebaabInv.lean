/-
  CONTRACTS AND LAWS: the invariants of a module, whether two modules have the same.
-/
import Derived.Test.YtmkoifmokdmebaabFac
import Derived.Test.YtmkoifmokdmebaabMatLaw
import Derived.Test.YtmkoifmokdmebaabEqM
set_option linter.unusedVariables false
set_option linter.unusedSimpArgs false
namespace Go.Proofs.Ytmkoifmokdmebaa
open Go.RowKit

def InvV (t : TypeId) (zs : List Int) (m : Int) (ok : Bool) (k : Nat) (v : AV) (Hout : List (Nat × Blk)) (n1 : Nat) : Prop := ∃ cap, zs.length ≤ cap ∧ v = .tup [.one (.sl k 1 0 zs.length cap), .one (.int m), .one (.bool ok)] ∧ Hout = [(k, .own t cap (.ints zs))] ∧ n1 = k + 1
theorem InvV.out {t : TypeId} {zs : List Int} {m : Int} {ok : Bool} {k : Nat} : ∀ v Hout n1, InvV t zs m ok k v Hout n1 → ∃ b, Hout = [(k, b)] ∧ n1 = k + 1 ∧ b.keys = [] := fun _ _ _ ⟨_, _, _, h2, h3⟩ => ⟨_, h2, h3, by simp [Blk.keys, Elts.keys, Elts.all, ints_keys]⟩
def invO (r c : Int) (xs : List Int) : Option (List Int × Int) := (facO r c xs).map fun f => (gtTo f f.length, c - f.length)
def InvR (t : TypeId) (o : Option (List Int × Int)) (k : Nat) (v : AV) (Hout : List (Nat × Blk)) (n1 : Nat) : Prop := match o with
  | none => InvV t [] 0 false k v Hout n1
  | some p => InvV t p.1 p.2 true k v Hout n1
theorem facO_some {r c : Int} {xs f : List Int} (h : facO r c xs = some f) : f.length ≤ 24 ∧ 0 ≤ c ∧ c ≤ 24 := by
  simp only [facO, Option.map_eq_some_iff] at h
  obtain ⟨s, h1, rfl⟩ := h
  have hm : isM r c xs = true := by
    cases h : isM r c xs
    · rw [smO, h] at h1; cases h1
    · rfl
  obtain ⟨a, b, rfl, rfl, ha, hb, hx, hnum⟩ := isM_dimsH hm
  have := faTo_len (xs := s.1) (c := b) (n := min a b)
  simp only [Int.toNat_natCast] at *
  omega
theorem inv_form {r c : Int} {xs : List Int} : ∃ (zs : List Int) (m : Int) (ok : Bool), zs.length ≤ 24 ∧ (-24 ≤ m ∧ m ≤ 24) ∧ ∀ t k, InvR t (invO r c xs) k = InvV t zs m ok k := by
  cases h : invO r c xs with
  | none => exact ⟨[], 0, false, Nat.zero_le _, by omega, fun _ _ => rfl⟩
  | some p =>
    simp only [invO, Option.map_eq_some_iff] at h
    obtain ⟨f, h1, rfl⟩ := h
    obtain ⟨e1, e2, e3⟩ := facO_some h1
    have := gtTo_len (xs := f) (n := f.length)
    exact ⟨gtTo f f.length, c - f.length, true, by omega, by omega, fun _ _ => rfl⟩
set_option maxHeartbeats 4000000 in
theorem d_invI (r c : Int) (xs : List Int) (ca : Nat) (hl : xs.length ≤ 1099511627776) : Does Try.prog 32 [vM r c 1 xs.length ca] [(1, .ro (.ints xs))] 2 (InvR 3 (invO r c xs) 2) := by
  refine Does.intro TT Try.func32 rfl (by kernel_rfl) rfl rfl fun E hE => ?_
  have hf := d_facI r c xs ca hl
  cases ho : facO r c xs with
  | none =>
    have hR : invO r c xs = none := by simp [invO, ho]
    rw [hR]
    rw [ho] at hf
    ((repeat' (first | (refine awpL_step TT rfl rfl rfl sd ?_) | (refine awpL_nil ?_) | (refine awpL_skip rfl rfl ?_) | (refine awpQ_step TT rfl rfl rfl rfl sd ?_) | (refine awpQ_nil ?_) | (refine awpQ_skip rfl rfl ?_) | (refine awp_seq ?_) | (refine awp_region ?_) | ((first | refine awpL_one (hf) rfl rfl rfl rfl rfl rfl rfl ft rfl rfl (FacV.out) ?_ | refine awpHop_one _ (hf) rfl rfl rfl rfl rfl rfl rfl rfl ft rfl rfl (FacV.out) sb rfl rfl ?_); rintro v b ⟨c6, hc6, rfl, he, -⟩; cases he) | (refine awp_block ?_) | (refine awp_exit ?_) | (refine awp_skip ?_) | (refine awp_ret ?_) | (refine awp_cond_t rfl ?_) | (refine awp_cond_f rfl ?_) | (refine awp_quiet TM rfl (by kernel_rfl) ?_) | ((first | refine awpL_split rfl rfl rfl (fun hc => ?_) (fun hc => ?_) | refine awpQ_split rfl rfl rfl (fun hc => ?_) (fun hc => ?_) | refine awp_cond rfl (fun hc => ?_) (fun hc => ?_)) <;> ((try simp at hc) <;> try contradiction)))) <;> try (exfalso; omega))
    all_goals exact fin rfl (by repeat' (first | exact trivial | exact Nat.zero_lt_one | omega | refine ⟨?_, ?_⟩)) [(2, 4)] (.tup [.one (.sl 2 1 0 0 0), .one (.int 0), .one (.bool false)]) [(2, .own 3 0 (.ints []))] 3 ⟨0, Nat.le_refl _, rfl, rfl, rfl⟩ rfl ⟨trivial, ⟨own_ints rfl, trivial⟩, rfl⟩ rfl
  | some f =>
    have hR : invO r c xs = some (gtTo f f.length, c - f.length) := by simp [invO, ho]
    obtain ⟨e1, e2, e3⟩ := facO_some ho
    rw [hR]
    rw [ho] at hf
    ((repeat' (first | (refine awpL_step TT rfl rfl rfl sd ?_) | (refine awpL_nil ?_) | (refine awpL_skip rfl rfl ?_) | (refine awpQ_step TT rfl rfl rfl rfl sd ?_) | (refine awpQ_nil ?_) | (refine awpQ_skip rfl rfl ?_) | (refine awp_seq ?_) | (refine awp_region ?_) | ((first | refine awpL_one (hf) rfl rfl rfl rfl rfl rfl rfl ft rfl rfl (FacV.out) ?_ | refine awpHop_one _ (hf) rfl rfl rfl rfl rfl rfl rfl rfl ft rfl rfl (FacV.out) sb rfl rfl ?_); rintro v b ⟨c6, hc6, rfl, he, -⟩; cases he) | (refine awp_block ?_) | (refine awp_exit ?_) | (refine awp_skip ?_) | (refine awp_ret ?_) | (refine awp_cond_t rfl ?_) | (refine awp_cond_f rfl ?_) | ((first | refine awpL_split rfl rfl rfl (fun hc => ?_) (fun hc => ?_) | refine awpQ_split rfl rfl rfl (fun hc => ?_) (fun hc => ?_) | refine awp_cond rfl (fun hc => ?_) (fun hc => ?_)) <;> ((try simp at hc) <;> try contradiction)))) <;> try (exfalso; omega))
    refine awp_held TM [(2, _)] sb rfl (fun ρs => ?_)
    refine awpH_take TT 0 rfl kr kr kr nh rfl rfl rfl rfl sd ?_
    refine awpH_take TT 2 rfl kr kr kr nh rfl rfl rfl rfl sd ?_
    refine awpH_take TT 3 rfl kr kr kr nh rfl rfl rfl rfl sd ?_
    refine awpH_take TT 4 rfl kr kr kr nh rfl rfl rfl rfl sd ?_
    refine awpH_take TT 5 rfl kr kr kr nh rfl rfl rfl rfl sd ?_
    refine awpH_take TT 6 rfl kr kr kr nh rfl rfl rfl rfl sd ?_
    refine awpH_all [1] kr rfl ⟨?_, trivial⟩
    first | (refine awpHop_step TT 1 rfl rfl rfl rfl sd sb rfl ?_) | ((first | refine awpL_one (d_gt f _ (by omega)) rfl rfl rfl rfl rfl rfl rfl ft rfl rfl (MadeI.out) ?_ | refine awpHop_one _ (d_gt f _ (by omega)) rfl rfl rfl rfl rfl rfl rfl rfl ft rfl rfl (MadeI.out) sb rfl rfl ?_); rintro v b ⟨c7, hc7, rfl, he, -⟩; cases he)
    refine awpH_take TT 7 rfl kr kr kr nh rfl rfl rfl rfl sd ?_
    refine awpH_take TT 8 rfl kr kr kr nh rfl rfl rfl rfl sd ?_
    refine awpH_take TT 9 rfl kr kr kr nh rfl rfl rfl rfl sd ?_
    refine awpH_done kr ?_
    rotate_left
    all_goals ((repeat' (first | (refine awpL_step TT rfl rfl rfl sd ?_) | (refine awpL_nil ?_) | (refine awpL_skip rfl rfl ?_) | (refine awpQ_step TT rfl rfl rfl rfl sd ?_) | (refine awpQ_nil ?_) | (refine awpQ_skip rfl rfl ?_) | (refine awp_seq ?_) | (refine awp_region ?_) | (refine awp_block ?_) | (refine awp_exit ?_) | (refine awp_skip ?_) | (refine awp_ret ?_) | (refine awp_cond_t rfl ?_) | (refine awp_cond_f rfl ?_) | (refine awp_quiet TM rfl (by kernel_rfl) ?_) | ((first | refine awpL_split rfl rfl rfl (fun hc => ?_) (fun hc => ?_) | refine awpQ_split rfl rfl rfl (fun hc => ?_) (fun hc => ?_) | refine awp_cond rfl (fun hc => ?_) (fun hc => ?_)) <;> ((try simp at hc) <;> try contradiction)))) <;> try (exfalso; omega))
    all_goals exact fin rfl (by repeat' (first | exact trivial | exact Nat.zero_lt_one | omega | refine ⟨?_, ?_⟩)) [(2, 4)] (.tup [.one (.sl 2 1 0 (gtTo f f.length).length c7), .one (.int (c - f.length)), .one (.bool true)]) [(2, .own 3 c7 (.ints (gtTo f f.length)))] 3 ⟨c7, hc7, rfl, rfl, rfl⟩ rfl ⟨trivial, ⟨rfl, trivial⟩, rfl⟩ rfl
set_option maxHeartbeats 4000000 in
theorem d_invS (r c : Int) (xs : List Int) (ca : Nat) (hl : xs.length ≤ 1099511627776) : Does Try.prog 31 [vM r c 1 xs.length ca] [(1, .ro (.ints xs))] 2 (InvR 3 (invO r c xs) 2) := by
  refine Does.intro TT Try.func31 rfl (by kernel_rfl) rfl rfl fun E hE => ?_
  have hf := d_facS r c xs ca hl
  cases ho : facO r c xs with
  | none =>
    have hR : invO r c xs = none := by simp [invO, ho]
    rw [hR]
    rw [ho] at hf
    ((repeat' (first | (refine awpL_step TT rfl rfl rfl sd ?_) | (refine awpL_nil ?_) | (refine awpL_skip rfl rfl ?_) | (refine awpQ_step TT rfl rfl rfl rfl sd ?_) | (refine awpQ_nil ?_) | (refine awpQ_skip rfl rfl ?_) | (refine awp_seq ?_) | (refine awp_region ?_) | ((first | refine awpL_one (hf) rfl rfl rfl rfl rfl rfl rfl ft rfl rfl (FacV.out) ?_ | refine awpHop_one _ (hf) rfl rfl rfl rfl rfl rfl rfl rfl ft rfl rfl (FacV.out) sb rfl rfl ?_); rintro v b ⟨c6, hc6, rfl, he, -⟩; cases he) | (refine awp_block ?_) | (refine awp_exit ?_) | (refine awp_skip ?_) | (refine awp_ret ?_) | (refine awp_cond_t rfl ?_) | (refine awp_cond_f rfl ?_) | (refine awp_quiet TM rfl (by kernel_rfl) ?_) | ((first | refine awpL_split rfl rfl rfl (fun hc => ?_) (fun hc => ?_) | refine awpQ_split rfl rfl rfl (fun hc => ?_) (fun hc => ?_) | refine awp_cond rfl (fun hc => ?_) (fun hc => ?_)) <;> ((try simp at hc) <;> try contradiction)))) <;> try (exfalso; omega))
    all_goals exact fin rfl (by repeat' (first | exact trivial | exact Nat.zero_lt_one | omega | refine ⟨?_, ?_⟩)) [(2, 4)] (.tup [.one (.sl 2 1 0 0 0), .one (.int 0), .one (.bool false)]) [(2, .own 3 0 (.ints []))] 3 ⟨0, Nat.le_refl _, rfl, rfl, rfl⟩ rfl ⟨trivial, ⟨own_ints rfl, trivial⟩, rfl⟩ rfl
  | some f =>
    have hR : invO r c xs = some (gtTo f f.length, c - f.length) := by simp [invO, ho]
    obtain ⟨e1, e2, e3⟩ := facO_some ho
    rw [hR]
    rw [ho] at hf
    ((repeat' (first | (refine awpL_step TT rfl rfl rfl sd ?_) | (refine awpL_nil ?_) | (refine awpL_skip rfl rfl ?_) | (refine awpQ_step TT rfl rfl rfl rfl sd ?_) | (refine awpQ_nil ?_) | (refine awpQ_skip rfl rfl ?_) | (refine awp_seq ?_) | (refine awp_region ?_) | ((first | refine awpL_one (hf) rfl rfl rfl rfl rfl rfl rfl ft rfl rfl (FacV.out) ?_ | refine awpHop_one _ (hf) rfl rfl rfl rfl rfl rfl rfl rfl ft rfl rfl (FacV.out) sb rfl rfl ?_); rintro v b ⟨c6, hc6, rfl, he, -⟩; cases he) | (refine awp_block ?_) | (refine awp_exit ?_) | (refine awp_skip ?_) | (refine awp_ret ?_) | (refine awp_cond_t rfl ?_) | (refine awp_cond_f rfl ?_) | (refine awp_quiet TM rfl (by kernel_rfl) ?_) | ((first | refine awpL_split rfl rfl rfl (fun hc => ?_) (fun hc => ?_) | refine awpQ_split rfl rfl rfl (fun hc => ?_) (fun hc => ?_) | refine awp_cond rfl (fun hc => ?_) (fun hc => ?_)) <;> ((try simp at hc) <;> try contradiction)))) <;> try (exfalso; omega))
    refine awp_loop hE (fun x : Nat × Nat => x.1 ≤ f.length ∧ (gtTo f x.1).length ≤ x.2) (fun x => f.length - x.1)
      (fun x => [(1, .one (.ptr 2 3 0 0)), (5, vS 3 1 0 f.length c6), (7, vS 4 1 0 (gtTo f x.1).length x.2), (8, vI x.1)]) (fun x => [(2, .own 27 1 (.lit [.int r, .int c, .sl 1 1 0 xs.length ca])), (3, .own 3 c6 (.ints f)), (4, .own 3 x.2 (.ints (gtTo f x.1)))]) 5 [] (0, 0) ⟨Nat.zero_le _, Nat.le_refl _⟩ ⟨(by repeat' (first | exact trivial | refine ⟨rfl, ?_⟩ | refine ⟨congrArg some (congrArg vI (by first | omega | (simp; done) | (simp; omega))), ?_⟩ | refine ⟨sl_eqA (by first | omega | (simp; done) | (simp; omega)), ?_⟩)), (by repeat' (first | exact trivial | refine ⟨rfl, ?_⟩)), rfl⟩ ?_
    rintro ⟨i, cap0⟩ ⟨hi, hc0⟩
    dsimp only at hi hc0 ⊢
    have hlen := gtTo_len (xs := f) (n := i)
    by_cases hia : i < f.length
    · have hkn : ¬ (f.length ≤ i) := by omega
      have w1 : f[i]?.getD 0 = f.getD i 0 := by simp
      have w0 : f.getD (0 + (i : Int).toNat) 0 = f.getD i 0 := by simp
      by_cases h0 : 1 < f.getD i 0
      · have hnx : gtTo f (i + 1) = gtTo f i ++ [f.getD (0 + (i : Int).toNat) 0] := by rw [gtTo, if_pos h0, w0]
        have hlx : (gtTo f (i + 1)).length = (gtTo f i).length + 1 := by rw [hnx, List.length_append]; rfl
        ((repeat' (first | (refine awpL_step TT rfl rfl rfl sd ?_) | (refine awpL_nil ?_) | (refine awpL_skip rfl rfl ?_) | (refine awpQ_step TT rfl rfl rfl rfl sd ?_) | (refine awpQ_nil ?_) | (refine awpQ_skip rfl rfl ?_) | (refine awp_seq ?_) | (refine awp_region ?_) | (first | (refine awpL_append TT rfl rfl rfl rfl rfl sd ?_; intro cap hcap) | (refine awpHop_append TT _ rfl rfl rfl rfl rfl rfl sd sb rfl rfl ?_; intro cap hcap)) | (refine awp_block ?_) | (refine awp_exit ?_) | (refine awp_skip ?_) | (refine awp_ret ?_) | (refine awp_cond_t rfl ?_) | (refine awp_cond_f rfl ?_) | (refine awp_quiet TM rfl (by kernel_rfl) ?_) | ((first | refine awpL_split rfl rfl rfl (fun hc => ?_) (fun hc => ?_) | refine awpQ_split rfl rfl rfl (fun hc => ?_) (fun hc => ?_) | refine awp_cond rfl (fun hc => ?_) (fun hc => ?_)) <;> ((try simp at hc) <;> try contradiction)))) <;> try (exfalso; omega))
        all_goals exact ⟨[(4, 6)], (i + 1, cap), ⟨hia, by dsimp only at *; omega⟩, (by first | omega | (dsimp only; omega)), ⟨⟨rfl, rfl, sl_eqA (by rw [hlx]), rfl, trivial⟩, ⟨rfl, rfl, own_ints hnx.symm, trivial⟩, rfl⟩⟩
      · have hnx : gtTo f (i + 1) = gtTo f i := by rw [gtTo, if_neg h0]
        ((repeat' (first | (refine awpL_step TT rfl rfl rfl sd ?_) | (refine awpL_nil ?_) | (refine awpL_skip rfl rfl ?_) | (refine awpQ_step TT rfl rfl rfl rfl sd ?_) | (refine awpQ_nil ?_) | (refine awpQ_skip rfl rfl ?_) | (refine awp_seq ?_) | (refine awp_region ?_) | (refine awp_block ?_) | (refine awp_exit ?_) | (refine awp_skip ?_) | (refine awp_ret ?_) | (refine awp_cond_t rfl ?_) | (refine awp_cond_f rfl ?_) | (refine awp_quiet TM rfl (by kernel_rfl) ?_) | ((first | refine awpL_split rfl rfl rfl (fun hc => ?_) (fun hc => ?_) | refine awpQ_split rfl rfl rfl (fun hc => ?_) (fun hc => ?_) | refine awp_cond rfl (fun hc => ?_) (fun hc => ?_)) <;> ((try simp at hc) <;> try contradiction)))) <;> try (exfalso; omega))
        all_goals exact ⟨[], (i + 1, cap0), ⟨hia, by dsimp only; rw [hnx]; exact hc0⟩, (by first | omega | (dsimp only; omega)), ⟨⟨rfl, rfl, sl_eqA (by rw [hnx]), rfl, trivial⟩, ⟨rfl, rfl, own_ints (by rw [hnx]), trivial⟩, rfl⟩⟩
    · have hia' : i = f.length := by omega
      subst hia'
      ((repeat' (first | (refine awpL_step TT rfl rfl rfl sd ?_) | (refine awpL_nil ?_) | (refine awpL_skip rfl rfl ?_) | (refine awpQ_step TT rfl rfl rfl rfl sd ?_) | (refine awpQ_nil ?_) | (refine awpQ_skip rfl rfl ?_) | (refine awp_seq ?_) | (refine awp_region ?_) | (refine awp_block ?_) | (refine awp_exit ?_) | (refine awp_skip ?_) | (refine awp_ret ?_) | (refine awp_cond_t rfl ?_) | (refine awp_cond_f rfl ?_) | (refine awp_quiet TM rfl (by kernel_rfl) ?_) | ((first | refine awpL_split rfl rfl rfl (fun hc => ?_) (fun hc => ?_) | refine awpQ_split rfl rfl rfl (fun hc => ?_) (fun hc => ?_) | refine awp_cond rfl (fun hc => ?_) (fun hc => ?_)) <;> ((try simp at hc) <;> try contradiction)))) <;> try (exfalso; omega))
      all_goals exact fin rfl (by repeat' (first | exact trivial | exact Nat.zero_lt_one | omega | refine ⟨?_, ?_⟩)) [(2, 4)] (.tup [.one (.sl 2 1 0 (gtTo f f.length).length cap0), .one (.int (c - f.length)), .one (.bool true)]) [(2, .own 3 cap0 (.ints (gtTo f f.length)))] 3 ⟨cap0, hc0, rfl, rfl, rfl⟩ rfl ⟨trivial, ⟨rfl, trivial⟩, rfl⟩ rfl
set_option maxRecDepth 100000 in
set_option maxHeartbeats 16000000 in
theorem d_lawInv (r c : Int) (xs : List Int) (ca : Nat) (hn : xs.length ≤ 9223372036854775807) :
    Does Try.prog 8 [vM r c 1 xs.length ca] [(1, .ro (.ints xs))] 2 (Ret (vB true) 2) := by
  refine Does.intro TT Try.func8 rfl (by kernel_rfl) rfl rfl fun E hE => ?_
  have e1 := d_szMatrix r c xs ca 1048576 (by omega) hn
  by_cases q1 : 0 ≤ szL 1048576 xs.length
  · have hl : xs.length ≤ 1099511627776 := by unfold szL at q1; split at q1 <;> omega
    have hxl : xs.length ≤ 1048576 := by unfold szL at q1; split at q1 <;> omega
    obtain ⟨ys, m, ok, hyl, hm, hZ⟩ := inv_form (r := r) (c := c) (xs := xs)
    have h1 := fun ca => d_invS r c xs ca hl
    have h2 := fun ca => d_invI r c xs ca hl
    rw [hZ] at h1 h2
    have hyy : ys.length ≤ 1099511627776 := by omega
    cases ok
    all_goals ((repeat' (first | (refine awpL_step TT rfl rfl rfl sd ?_) | (refine awpL_nil ?_) | (refine awpL_skip rfl rfl ?_) | (refine awpQ_step TT rfl rfl rfl rfl sd ?_) | (refine awpQ_nil ?_) | (refine awpQ_skip rfl rfl ?_) | (refine awp_seq ?_) | (refine awp_region ?_) | (first | refine awpL_ret (e1) rfl rfl rfl rfl rfl rfl rfl rfl ft rfl rfl ?_ | refine awpQ_ret (e1) rfl rfl rfl rfl rfl rfl rfl rfl ft rfl rfl ?_ | refine awpHop_ret _ (e1) rfl rfl rfl rfl rfl rfl rfl rfl rfl ft rfl rfl sb rfl ?_) | ((first | refine awpL_one (d_toMatrix r c xs _ hl) rfl rfl rfl rfl rfl rfl rfl ft rfl rfl (MadeMx.out) ?_ | refine awpHop_one _ (d_toMatrix r c xs _ hl) rfl rfl rfl rfl rfl rfl rfl rfl ft rfl rfl (MadeMx.out) sb rfl rfl ?_); rintro v b ⟨c1a, hc1a, rfl, he, -⟩; cases he) | ((first | refine awpL_one (h1 _) rfl rfl rfl rfl rfl rfl rfl ft rfl rfl (InvV.out) ?_ | refine awpHop_one _ (h1 _) rfl rfl rfl rfl rfl rfl rfl rfl ft rfl rfl (InvV.out) sb rfl rfl ?_); rintro v b ⟨cw, hcw, rfl, he, -⟩; cases he) | ((first | refine awpL_one (h2 _) rfl rfl rfl rfl rfl rfl rfl ft rfl rfl (InvV.out) ?_ | refine awpHop_one _ (h2 _) rfl rfl rfl rfl rfl rfl rfl rfl ft rfl rfl (InvV.out) sb rfl rfl ?_); rintro v b ⟨cg, hcg, rfl, he, -⟩; cases he) | (first | refine awpL_ret (d_eqIntS ys ys _ _ hyy hyy) rfl rfl rfl rfl rfl rfl rfl rfl ft rfl rfl ?_ | refine awpQ_ret (d_eqIntS ys ys _ _ hyy hyy) rfl rfl rfl rfl rfl rfl rfl rfl ft rfl rfl ?_ | refine awpHop_ret _ (d_eqIntS ys ys _ _ hyy hyy) rfl rfl rfl rfl rfl rfl rfl rfl rfl ft rfl rfl sb rfl ?_) | (refine awp_block ?_) | (refine awp_exit ?_) | (refine awp_skip ?_) | (refine awp_ret ?_) | (refine awp_cond_t rfl ?_) | (refine awp_cond_f rfl ?_) | ((first | refine awpL_split rfl rfl rfl (fun hc => ?_) (fun hc => ?_) | refine awpQ_split rfl rfl rfl (fun hc => ?_) (fun hc => ?_) | refine awp_cond rfl (fun hc => ?_) (fun hc => ?_)) <;> ((try simp at hc) <;> try contradiction)))) <;> try (exfalso; omega))
    all_goals
      refine awp_held TM [(2, _), (6, _)] sb rfl (fun ρs => ?_)
      refine awpH_take TT 0 rfl kr kr kr nh rfl rfl rfl rfl sd ?_
      refine awpH_take TT 1 rfl kr kr kr nh rfl rfl rfl rfl sd ?_
      refine awpH_all [2] kr rfl ⟨?_, trivial⟩
      first | (refine awpHop_step TT 2 rfl rfl rfl rfl sd sb rfl ?_) | ((first | refine awpL_one (d_toMatrix r c xs _ hl) rfl rfl rfl rfl rfl rfl rfl ft rfl rfl (MadeMx.out) ?_ | refine awpHop_one _ (d_toMatrix r c xs _ hl) rfl rfl rfl rfl rfl rfl rfl rfl ft rfl rfl (MadeMx.out) sb rfl rfl ?_); rintro v b ⟨c1b, hc1b, rfl, he, -⟩; cases he) | (first | refine awpL_ret (d_eqMatrix r c r c xs xs _ _ hl hl) rfl rfl rfl rfl rfl rfl rfl rfl ft rfl rfl ?_ | refine awpQ_ret (d_eqMatrix r c r c xs xs _ _ hl hl) rfl rfl rfl rfl rfl rfl rfl rfl ft rfl rfl ?_ | refine awpHop_ret _ (d_eqMatrix r c r c xs xs _ _ hl hl) rfl rfl rfl rfl rfl rfl rfl rfl rfl ft rfl rfl sb rfl ?_)
      refine awpH_all [3] kr rfl ⟨?_, trivial⟩
      first | (refine awpHop_step TT 3 rfl rfl rfl rfl sd sb rfl ?_) | ((first | refine awpL_one (d_toMatrix r c xs _ hl) rfl rfl rfl rfl rfl rfl rfl ft rfl rfl (MadeMx.out) ?_ | refine awpHop_one _ (d_toMatrix r c xs _ hl) rfl rfl rfl rfl rfl rfl rfl rfl ft rfl rfl (MadeMx.out) sb rfl rfl ?_); rintro v b ⟨c1b, hc1b, rfl, he, -⟩; cases he) | (first | refine awpL_ret (d_eqMatrix r c r c xs xs _ _ hl hl) rfl rfl rfl rfl rfl rfl rfl rfl ft rfl rfl ?_ | refine awpQ_ret (d_eqMatrix r c r c xs xs _ _ hl hl) rfl rfl rfl rfl rfl rfl rfl rfl ft rfl rfl ?_ | refine awpHop_ret _ (d_eqMatrix r c r c xs xs _ _ hl hl) rfl rfl rfl rfl rfl rfl rfl rfl rfl ft rfl rfl sb rfl ?_)
      refine awpH_take TT 4 rfl kr kr kr nh rfl rfl rfl rfl sd ?_
      refine awpH_done kr ?_
      rotate_left
    all_goals ((repeat' (first | (refine awpL_step TT rfl rfl rfl sd ?_) | (refine awpL_nil ?_) | (refine awpL_skip rfl rfl ?_) | (refine awpQ_step TT rfl rfl rfl rfl sd ?_) | (refine awpQ_nil ?_) | (refine awpQ_skip rfl rfl ?_) | (refine awp_seq ?_) | (refine awp_region ?_) | ((first | refine awpL_one (d_toMatrix r c xs _ hl) rfl rfl rfl rfl rfl rfl rfl ft rfl rfl (MadeMx.out) ?_ | refine awpHop_one _ (d_toMatrix r c xs _ hl) rfl rfl rfl rfl rfl rfl rfl rfl ft rfl rfl (MadeMx.out) sb rfl rfl ?_); rintro v b ⟨c1c, hc1c, rfl, he, -⟩; cases he) | ((refine awpL_call (d_markMatrix r c xs _ _ 1 hl (by omega) (by omega)) rfl rfl rfl rfl rfl rfl rfl ft rfl ?_); rintro v Hout n1 ⟨rfl, rfl, rfl⟩) | (first | refine awpL_ret (d_eqIntS ys ys _ _ hyy hyy) rfl rfl rfl rfl rfl rfl rfl rfl ft rfl rfl ?_ | refine awpQ_ret (d_eqIntS ys ys _ _ hyy hyy) rfl rfl rfl rfl rfl rfl rfl rfl ft rfl rfl ?_ | refine awpHop_ret _ (d_eqIntS ys ys _ _ hyy hyy) rfl rfl rfl rfl rfl rfl rfl rfl rfl ft rfl rfl sb rfl ?_) | ((refine awpL_call (d_markIntS ys _ _ 1 hyy (by omega) (by omega)) rfl rfl rfl rfl rfl rfl rfl ft rfl ?_); rintro v Hout n1 ⟨rfl, rfl, rfl⟩) | (first | refine awpL_ret (d_heldIntS ys.length _ 1 hyy (by omega) (by omega)) rfl rfl rfl rfl rfl rfl rfl rfl ft rfl rfl ?_ | refine awpQ_ret (d_heldIntS ys.length _ 1 hyy (by omega) (by omega)) rfl rfl rfl rfl rfl rfl rfl rfl ft rfl rfl ?_ | refine awpHop_ret _ (d_heldIntS ys.length _ 1 hyy (by omega) (by omega)) rfl rfl rfl rfl rfl rfl rfl rfl rfl ft rfl rfl sb rfl ?_) | ((first | refine awpL_one (h2 _) rfl rfl rfl rfl rfl rfl rfl ft rfl rfl (InvV.out) ?_ | refine awpHop_one _ (h2 _) rfl rfl rfl rfl rfl rfl rfl rfl ft rfl rfl (InvV.out) sb rfl rfl ?_); rintro v b ⟨ch, hch, rfl, he, -⟩; cases he) | (refine awp_block ?_) | (refine awp_exit ?_) | (refine awp_skip ?_) | (refine awp_ret ?_) | (refine awp_cond_t rfl ?_) | (refine awp_cond_f rfl ?_) | (refine awp_quiet TM rfl (by kernel_rfl) ?_) | ((first | refine awpL_split rfl rfl rfl (fun hc => ?_) (fun hc => ?_) | refine awpQ_split rfl rfl rfl (fun hc => ?_) (fun hc => ?_) | refine awp_cond rfl (fun hc => ?_) (fun hc => ?_)) <;> ((try simp at hc) <;> try contradiction)))) <;> try (exfalso; omega))
    all_goals refine fin_ret rfl (by repeat' (first | exact trivial | exact Nat.zero_lt_one | omega | refine ⟨?_, ?_⟩)) (rfl) rfl
  · ((repeat' (first | (refine awpL_step TT rfl rfl rfl sd ?_) | (refine awpL_nil ?_) | (refine awpL_skip rfl rfl ?_) | (refine awpQ_step TT rfl rfl rfl rfl sd ?_) | (refine awpQ_nil ?_) | (refine awpQ_skip rfl rfl ?_) | (refine awp_seq ?_) | (refine awp_region ?_) | (first | refine awpL_ret (e1) rfl rfl rfl rfl rfl rfl rfl rfl ft rfl rfl ?_ | refine awpQ_ret (e1) rfl rfl rfl rfl rfl rfl rfl rfl ft rfl rfl ?_ | refine awpHop_ret _ (e1) rfl rfl rfl rfl rfl rfl rfl rfl rfl ft rfl rfl sb rfl ?_) | (refine awp_block ?_) | (refine awp_exit ?_) | (refine awp_skip ?_) | (refine awp_ret ?_) | (refine awp_cond_t rfl ?_) | (refine awp_cond_f rfl ?_) | ((first | refine awpL_split rfl rfl rfl (fun hc => ?_) (fun hc => ?_) | refine awpQ_split rfl rfl rfl (fun hc => ?_) (fun hc => ?_) | refine awp_cond rfl (fun hc => ?_) (fun hc => ?_)) <;> ((try simp at hc) <;> try contradiction)))) <;> try (exfalso; omega))
    all_goals refine fin_ret rfl (by repeat' (first | exact trivial | exact Nat.zero_lt_one | omega | refine ⟨?_, ?_⟩)) (rfl) rfl
end Go.Proofs.Ytmkoifmokdmebaa
