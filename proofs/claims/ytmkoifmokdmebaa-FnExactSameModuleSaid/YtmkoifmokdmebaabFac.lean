/-
  CONTRACTS: the numbers of the Smith form, the invariants of a module, whether two modules have the same, of both packages.
-/
import Derived.Test.YtmkoifmokdmebaabSmU
set_option linter.unusedVariables false
set_option linter.unusedSimpArgs false
namespace Go.Proofs.Ytmkoifmokdmebaa
open Go.RowKit

def faTo (xs : List Int) (c : Nat) : Nat → List Int
  | 0 => []
  | n + 1 => if xs.getD (n * c + n) 0 ≠ 0 then faTo xs c n ++ [xs.getD (n * c + n) 0] else faTo xs c n
theorem faTo_len {xs : List Int} {c : Nat} : ∀ {n : Nat}, (faTo xs c n).length ≤ n
  | 0 => Nat.le_refl _
  | n + 1 => by
    have := faTo_len (xs := xs) (c := c) (n := n)
    rw [faTo]
    split
    · rw [List.length_append]; simp only [List.length_singleton]; omega
    · omega
def facO (r c : Int) (xs : List Int) : Option (List Int) := (smO r c xs).map fun s => faTo s.1 c.toNat (min r.toNat c.toNat)
def gtTo (xs : List Int) : Nat → List Int
  | 0 => []
  | n + 1 => if 1 < xs.getD n 0 then gtTo xs n ++ [xs.getD n 0] else gtTo xs n
theorem gtTo_len {xs : List Int} : ∀ {n : Nat}, (gtTo xs n).length ≤ n
  | 0 => Nat.le_refl _
  | n + 1 => by
    have := gtTo_len (xs := xs) (n := n)
    rw [gtTo]
    split
    · rw [List.length_append]; simp only [List.length_singleton]; omega
    · omega
def FacV (t : TypeId) (zs : List Int) (ok : Bool) (k : Nat) (v : AV) (Hout : List (Nat × Blk)) (n1 : Nat) : Prop := ∃ cap, zs.length ≤ cap ∧ v = .tup [.one (.sl k 1 0 zs.length cap), .one (.bool ok)] ∧ Hout = [(k, .own t cap (.ints zs))] ∧ n1 = k + 1
theorem FacV.out {t : TypeId} {zs : List Int} {ok : Bool} {k : Nat} : ∀ v Hout n1, FacV t zs ok k v Hout n1 → ∃ b, Hout = [(k, b)] ∧ n1 = k + 1 ∧ b.keys = [] := fun _ _ _ ⟨_, _, _, h2, h3⟩ => ⟨_, h2, h3, by simp [Blk.keys, Elts.keys, Elts.all, ints_keys]⟩
def FacR (t : TypeId) (o : Option (List Int)) (k : Nat) (v : AV) (Hout : List (Nat × Blk)) (n1 : Nat) : Prop := match o with
  | none => FacV t [] false k v Hout n1
  | some zs => FacV t zs true k v Hout n1
def diN (xs : List Int) (a b i : Nat) : Int := if i < a ∧ i < b then xs.getD (i * b + i) 0 else 0
theorem d_diag (a b i n cap : Nat) (xs : List Int) (hn : n = xs.length) (hx : xs.length = a * b) (ha : a ≤ 24) (hb : b ≤ 24) : Does Try.prog 119 [vM a b 1 n cap, vI i] [(1, .ro (.ints xs))] 2 (Ret (vI (diN xs a b i)) 2) := by
  refine Does.intro TT Try.func119 rfl (by kernel_rfl) rfl rfl fun E hE => ?_
  by_cases h : i < a ∧ i < b
  · have hR : diN xs a b i = xs.getD (i * b + i) 0 := if_pos h
    have hd := d_atN a b i i n cap xs hn hx ha hb h.1 h.2
    rw [hR]
    ((repeat' (first | (refine awpL_step TT rfl rfl rfl sd ?_) | (refine awpL_nil ?_) | (refine awpL_skip rfl rfl ?_) | (refine awpQ_step TT rfl rfl rfl rfl sd ?_) | (refine awpQ_nil ?_) | (refine awpQ_skip rfl rfl ?_) | (refine awp_seq ?_) | (refine awp_region ?_) | (first | refine awpL_ret (hd) rfl rfl rfl rfl rfl rfl rfl rfl ft rfl rfl ?_ | refine awpQ_ret (hd) rfl rfl rfl rfl rfl rfl rfl rfl ft rfl rfl ?_ | refine awpHop_ret _ (hd) rfl rfl rfl rfl rfl rfl rfl rfl rfl ft rfl rfl sb rfl ?_) | (refine awp_block ?_) | (refine awp_exit ?_) | (refine awp_skip ?_) | (refine awp_ret ?_) | (refine awp_cond_t rfl ?_) | (refine awp_cond_f rfl ?_) | (refine awp_quiet TM rfl (by kernel_rfl) ?_) | ((first | refine awpL_split rfl rfl rfl (fun hc => ?_) (fun hc => ?_) | refine awpQ_split rfl rfl rfl (fun hc => ?_) (fun hc => ?_) | refine awp_cond rfl (fun hc => ?_) (fun hc => ?_)) <;> ((try simp at hc) <;> try contradiction)))) <;> try (exfalso; omega))
    all_goals refine fin_ret rfl (by repeat' (first | exact trivial | exact Nat.zero_lt_one | omega | refine ⟨?_, ?_⟩)) (rfl) rfl
  · have hR : diN xs a b i = 0 := if_neg h
    rw [hR]
    by_cases h1 : i < a
    · have hkn : ¬ (i < b) := fun h2 => h ⟨h1, h2⟩
      have hkn2 : ¬ (a ≤ i) := by omega
      ((repeat' (first | (refine awpL_step TT rfl rfl rfl sd ?_) | (refine awpL_nil ?_) | (refine awpL_skip rfl rfl ?_) | (refine awpQ_step TT rfl rfl rfl rfl sd ?_) | (refine awpQ_nil ?_) | (refine awpQ_skip rfl rfl ?_) | (refine awp_seq ?_) | (refine awp_region ?_) | (refine awp_block ?_) | (refine awp_exit ?_) | (refine awp_skip ?_) | (refine awp_ret ?_) | (refine awp_cond_t rfl ?_) | (refine awp_cond_f rfl ?_) | (refine awp_quiet TM rfl (by kernel_rfl) ?_) | ((first | refine awpL_split rfl rfl rfl (fun hc => ?_) (fun hc => ?_) | refine awpQ_split rfl rfl rfl (fun hc => ?_) (fun hc => ?_) | refine awp_cond rfl (fun hc => ?_) (fun hc => ?_)) <;> ((try simp at hc) <;> try contradiction)))) <;> try (exfalso; omega))
      all_goals refine fin_ret rfl (by repeat' (first | exact trivial | exact Nat.zero_lt_one | omega | refine ⟨?_, ?_⟩)) (rfl) rfl
    · ((repeat' (first | (refine awpL_step TT rfl rfl rfl sd ?_) | (refine awpL_nil ?_) | (refine awpL_skip rfl rfl ?_) | (refine awpQ_step TT rfl rfl rfl rfl sd ?_) | (refine awpQ_nil ?_) | (refine awpQ_skip rfl rfl ?_) | (refine awp_seq ?_) | (refine awp_region ?_) | (refine awp_block ?_) | (refine awp_exit ?_) | (refine awp_skip ?_) | (refine awp_ret ?_) | (refine awp_cond_t rfl ?_) | (refine awp_cond_f rfl ?_) | (refine awp_quiet TM rfl (by kernel_rfl) ?_) | ((first | refine awpL_split rfl rfl rfl (fun hc => ?_) (fun hc => ?_) | refine awpQ_split rfl rfl rfl (fun hc => ?_) (fun hc => ?_) | refine awp_cond rfl (fun hc => ?_) (fun hc => ?_)) <;> ((try simp at hc) <;> try contradiction)))) <;> try (exfalso; omega))
      all_goals refine fin_ret rfl (by repeat' (first | exact trivial | exact Nat.zero_lt_one | omega | refine ⟨?_, ?_⟩)) (rfl) rfl
set_option maxRecDepth 100000 in
set_option maxHeartbeats 8000000 in
theorem d_facI (r c : Int) (xs : List Int) (ca : Nat) (hl : xs.length ≤ 1099511627776) : Does Try.prog 77 [vM r c 1 xs.length ca] [(1, .ro (.ints xs))] 2 (FacR 3 (facO r c xs) 2) := by
  refine Does.intro TT Try.func77 rfl (by kernel_rfl) rfl rfl fun E hE => ?_
  have hsm := d_smithI r c xs ca hl
  cases ho : smO r c xs with
  | none =>
    have hR : facO r c xs = none := by simp [facO, ho]
    rw [hR]
    rw [ho] at hsm
    ((repeat' (first | (refine awpL_step TT rfl rfl rfl sd ?_) | (refine awpL_nil ?_) | (refine awpL_skip rfl rfl ?_) | (refine awpQ_step TT rfl rfl rfl rfl sd ?_) | (refine awpQ_nil ?_) | (refine awpQ_skip rfl rfl ?_) | (refine awp_seq ?_) | (refine awp_region ?_) | ((refine awpL_call (hsm) rfl rfl rfl rfl rfl rfl rfl ft rfl ?_); rintro v Hout n1 ⟨rfl, rfl, rfl⟩) | (refine awp_block ?_) | (refine awp_exit ?_) | (refine awp_skip ?_) | (refine awp_ret ?_) | (refine awp_cond_t rfl ?_) | (refine awp_cond_f rfl ?_) | (refine awp_quiet TM rfl (by kernel_rfl) ?_) | ((first | refine awpL_split rfl rfl rfl (fun hc => ?_) (fun hc => ?_) | refine awpQ_split rfl rfl rfl (fun hc => ?_) (fun hc => ?_) | refine awp_cond rfl (fun hc => ?_) (fun hc => ?_)) <;> ((try simp at hc) <;> try contradiction)))) <;> try (exfalso; omega))
    all_goals exact fin rfl (by repeat' (first | exact trivial | exact Nat.zero_lt_one | omega | refine ⟨?_, ?_⟩)) [(2, 6)] (.tup [.one (.sl 2 1 0 0 0), .one (.bool false)]) [(2, .own 3 0 (.ints []))] 3 ⟨0, Nat.le_refl _, rfl, rfl, rfl⟩ rfl ⟨trivial, ⟨own_ints rfl, trivial⟩, rfl⟩ rfl
  | some s =>
    have hm : isM r c xs = true := by
      cases h : isM r c xs
      · rw [smO, h] at ho; cases ho
      · rfl
    obtain ⟨a, b, rfl, rfl, ha, hb, hx, hnum⟩ := isM_dimsH hm
    have hR : facO a b xs = some (faTo s.1 b (min a b)) := by simp [facO, ho]
    have o1 : OK3 a b s := by
      rw [smO, hm] at ho
      exact sTo_ok (s := (xs, idTo a a, idTo b b)) ⟨hx, idTo_len, idTo_len, hnum, id_num, id_num⟩ (Nat.le_refl _) ho
    have k1 := o1.x
    have k2 := o1.u
    have k3 := o1.v
    have hab : a * b ≤ 24 * 24 := Nat.mul_le_mul ha hb
    rw [ho] at hsm
    rw [hR]
    ((repeat' (first | (refine awpL_step TT rfl rfl rfl sd ?_) | (refine awpL_nil ?_) | (refine awpL_skip rfl rfl ?_) | (refine awpQ_step TT rfl rfl rfl rfl sd ?_) | (refine awpQ_nil ?_) | (refine awpQ_skip rfl rfl ?_) | (refine awp_seq ?_) | (refine awp_region ?_) | ((refine awpL_call (hsm) rfl rfl rfl rfl rfl rfl rfl ft rfl ?_); rintro v Hout n1 ⟨cx, cu, cv, hcx, rfl, rfl, rfl⟩) | (refine awp_block ?_) | (refine awp_exit ?_) | (refine awp_skip ?_) | (refine awp_ret ?_) | (refine awp_cond_t rfl ?_) | (refine awp_cond_f rfl ?_) | (refine awp_quiet TM rfl (by kernel_rfl) ?_) | ((first | refine awpL_split rfl rfl rfl (fun hc => ?_) (fun hc => ?_) | refine awpQ_split rfl rfl rfl (fun hc => ?_) (fun hc => ?_) | refine awp_cond rfl (fun hc => ?_) (fun hc => ?_)) <;> ((try simp at hc) <;> try contradiction)))) <;> try (exfalso; omega))
    refine awp_loop hE (fun x : Nat × Nat => x.1 ≤ a ∧ (faTo s.1 b (min x.1 b)).length ≤ x.2) (fun x => a - x.1)
      (fun x => [(4, .one (.ptr 4 3 0 0)), (8, vS 3 1 0 (faTo s.1 b (min x.1 b)).length x.2), (9, vI x.1)]) (fun x => [(2, .own 3 cx (.ints s.1)), (3, .own 3 x.2 (.ints (faTo s.1 b (min x.1 b)))), (4, .own 27 1 (.lit [.int a, .int b, .sl 2 1 0 s.1.length cx]))]) 5 [(2, 3), (3, 9), (4, 6)] (0, 0) ⟨Nat.zero_le _, by simp [faTo]⟩ ⟨⟨rfl, sl_eqA (by simp [faTo]), rfl, trivial⟩, ⟨rfl, own_ints (by simp [faTo]), rfl, trivial⟩, rfl⟩ ?_
    rintro ⟨i, cap0⟩ ⟨hi, hc0⟩
    dsimp only at hi hc0 ⊢
    have hlen := faTo_len (xs := s.1) (c := b) (n := min i b)
    by_cases hia : i < a
    · have hd := fun cp => d_diag a b i s.1.length cp s.1 rfl k1 ha hb
      have hkn : ¬ (a ≤ i) := by omega
      by_cases h0 : diN s.1 a b i = 0
      · have hnx : faTo s.1 b (min (i + 1) b) = faTo s.1 b (min i b) := by
          by_cases hib : i < b
          · rw [diN, if_pos ⟨hia, hib⟩] at h0
            rw [show min (i + 1) b = i + 1 by omega, show min i b = i by omega, faTo, if_neg (fun h => h h0)]
          · rw [show min (i + 1) b = b by omega, show min i b = b by omega]
        ((repeat' (first | (refine awpL_step TT rfl rfl rfl sd ?_) | (refine awpL_nil ?_) | (refine awpL_skip rfl rfl ?_) | (refine awpQ_step TT rfl rfl rfl rfl sd ?_) | (refine awpQ_nil ?_) | (refine awpQ_skip rfl rfl ?_) | (refine awp_seq ?_) | (refine awp_region ?_) | (first | refine awpL_ret (hd _) rfl rfl rfl rfl rfl rfl rfl rfl ft rfl rfl ?_ | refine awpQ_ret (hd _) rfl rfl rfl rfl rfl rfl rfl rfl ft rfl rfl ?_ | refine awpHop_ret _ (hd _) rfl rfl rfl rfl rfl rfl rfl rfl rfl ft rfl rfl sb rfl ?_) | (refine awp_block ?_) | (refine awp_exit ?_) | (refine awp_skip ?_) | (refine awp_ret ?_) | (refine awp_cond_t rfl ?_) | (refine awp_cond_f rfl ?_) | (refine awp_quiet TM rfl (by kernel_rfl) ?_) | ((first | refine awpL_split rfl rfl rfl (fun hc => ?_) (fun hc => ?_) | refine awpQ_split rfl rfl rfl (fun hc => ?_) (fun hc => ?_) | refine awp_cond rfl (fun hc => ?_) (fun hc => ?_)) <;> ((try simp at hc) <;> try contradiction)))) <;> try (exfalso; omega))
        all_goals exact ⟨[], (i + 1, cap0), ⟨hia, by dsimp only; rw [hnx]; exact hc0⟩, (by first | omega | (dsimp only; omega)), ⟨⟨rfl, sl_eqA (by rw [hnx]), rfl, trivial⟩, ⟨rfl, own_ints (by rw [hnx]), rfl, trivial⟩, rfl⟩⟩
      · have hib : i < b := by
          rcases Nat.lt_or_ge i b with h | h
          · exact h
          · exact absurd (if_neg (by omega)) h0
        have hnx : faTo s.1 b (min (i + 1) b) = faTo s.1 b (min i b) ++ [diN s.1 a b i] := by
          have e : diN s.1 a b i = s.1.getD (i * b + i) 0 := if_pos ⟨hia, hib⟩
          rw [e] at h0
          rw [e, show min (i + 1) b = i + 1 by omega, show min i b = i by omega, faTo, if_pos h0]
        have hlx : (faTo s.1 b (min (i + 1) b)).length = (faTo s.1 b (min i b)).length + 1 := by rw [hnx, List.length_append]; rfl
        ((repeat' (first | (refine awpL_step TT rfl rfl rfl sd ?_) | (refine awpL_nil ?_) | (refine awpL_skip rfl rfl ?_) | (refine awpQ_step TT rfl rfl rfl rfl sd ?_) | (refine awpQ_nil ?_) | (refine awpQ_skip rfl rfl ?_) | (refine awp_seq ?_) | (refine awp_region ?_) | (first | refine awpL_ret (hd _) rfl rfl rfl rfl rfl rfl rfl rfl ft rfl rfl ?_ | refine awpQ_ret (hd _) rfl rfl rfl rfl rfl rfl rfl rfl ft rfl rfl ?_ | refine awpHop_ret _ (hd _) rfl rfl rfl rfl rfl rfl rfl rfl rfl ft rfl rfl sb rfl ?_) | (first | (refine awpL_append TT rfl rfl rfl rfl rfl sd ?_; intro cap hcap) | (refine awpHop_append TT _ rfl rfl rfl rfl rfl rfl sd sb rfl rfl ?_; intro cap hcap)) | (refine awp_block ?_) | (refine awp_exit ?_) | (refine awp_skip ?_) | (refine awp_ret ?_) | (refine awp_cond_t rfl ?_) | (refine awp_cond_f rfl ?_) | (refine awp_quiet TM rfl (by kernel_rfl) ?_) | ((first | refine awpL_split rfl rfl rfl (fun hc => ?_) (fun hc => ?_) | refine awpQ_split rfl rfl rfl (fun hc => ?_) (fun hc => ?_) | refine awp_cond rfl (fun hc => ?_) (fun hc => ?_)) <;> ((try simp at hc) <;> try contradiction)))) <;> try (exfalso; omega))
        all_goals exact ⟨[(3, 6)], (i + 1, cap), ⟨hia, by dsimp only at *; omega⟩, (by first | omega | (dsimp only; omega)), ⟨⟨rfl, sl_eqA (by rw [hlx]), rfl, trivial⟩, ⟨rfl, own_ints hnx.symm, rfl, trivial⟩, rfl⟩⟩
    · have hia' : i = a := by omega
      subst hia'
      ((repeat' (first | (refine awpL_step TT rfl rfl rfl sd ?_) | (refine awpL_nil ?_) | (refine awpL_skip rfl rfl ?_) | (refine awpQ_step TT rfl rfl rfl rfl sd ?_) | (refine awpQ_nil ?_) | (refine awpQ_skip rfl rfl ?_) | (refine awp_seq ?_) | (refine awp_region ?_) | (refine awp_block ?_) | (refine awp_exit ?_) | (refine awp_skip ?_) | (refine awp_ret ?_) | (refine awp_cond_t rfl ?_) | (refine awp_cond_f rfl ?_) | (refine awp_quiet TM rfl (by kernel_rfl) ?_) | ((first | refine awpL_split rfl rfl rfl (fun hc => ?_) (fun hc => ?_) | refine awpQ_split rfl rfl rfl (fun hc => ?_) (fun hc => ?_) | refine awp_cond rfl (fun hc => ?_) (fun hc => ?_)) <;> ((try simp at hc) <;> try contradiction)))) <;> try (exfalso; omega))
      all_goals exact fin rfl (by repeat' (first | exact trivial | exact Nat.zero_lt_one | omega | refine ⟨?_, ?_⟩)) [(2, 3)] (.tup [.one (.sl 2 1 0 (faTo s.1 b (min i b)).length cap0), .one (.bool true)]) [(2, .own 3 cap0 (.ints (faTo s.1 b (min i b))))] 3 ⟨cap0, hc0, rfl, rfl, rfl⟩ rfl ⟨trivial, ⟨rfl, trivial⟩, rfl⟩ rfl
set_option maxRecDepth 100000 in
set_option maxHeartbeats 8000000 in
theorem d_facS (r c : Int) (xs : List Int) (ca : Nat) (hl : xs.length ≤ 1099511627776) : Does Try.prog 76 [vM r c 1 xs.length ca] [(1, .ro (.ints xs))] 2 (FacR 3 (facO r c xs) 2) := by
  refine Does.intro TT Try.func76 rfl (by kernel_rfl) rfl rfl fun E hE => ?_
  have hsm := d_smithS r c xs ca hl
  cases ho : smO r c xs with
  | none =>
    have hR : facO r c xs = none := by simp [facO, ho]
    rw [hR]
    rw [ho] at hsm
    ((repeat' (first | (refine awpL_step TT rfl rfl rfl sd ?_) | (refine awpL_nil ?_) | (refine awpL_skip rfl rfl ?_) | (refine awpQ_step TT rfl rfl rfl rfl sd ?_) | (refine awpQ_nil ?_) | (refine awpQ_skip rfl rfl ?_) | (refine awp_seq ?_) | (refine awp_region ?_) | ((refine awpL_call (hsm) rfl rfl rfl rfl rfl rfl rfl ft rfl ?_); rintro v Hout n1 ⟨rfl, rfl, rfl⟩) | (refine awp_block ?_) | (refine awp_exit ?_) | (refine awp_skip ?_) | (refine awp_ret ?_) | (refine awp_cond_t rfl ?_) | (refine awp_cond_f rfl ?_) | (refine awp_quiet TM rfl (by kernel_rfl) ?_) | ((first | refine awpL_split rfl rfl rfl (fun hc => ?_) (fun hc => ?_) | refine awpQ_split rfl rfl rfl (fun hc => ?_) (fun hc => ?_) | refine awp_cond rfl (fun hc => ?_) (fun hc => ?_)) <;> ((try simp at hc) <;> try contradiction)))) <;> try (exfalso; omega))
    refine awp_loop hE (fun _ : Unit => True) (fun _ => 0) (fun _ => [(4, .one (.ptr 3 3 0 0)), (7, vB false), (8, vS 2 1 0 0 0), (9, vI 0)]) (fun _ => [(2, .own 3 0 (.ints [])), (3, .own 27 1 (.lit zeroM))]) 4 [(2, 6), (3, 3)] () trivial ⟨(by repeat' (first | exact trivial | refine ⟨rfl, ?_⟩ | refine ⟨congrArg some (congrArg vI (by first | omega | (simp; done) | (simp; omega))), ?_⟩ | refine ⟨sl_eqA (by first | omega | (simp; done) | (simp; omega)), ?_⟩)), ⟨own_ints rfl, rfl, trivial⟩, rfl⟩ ?_
    rintro ⟨⟩ -
    ((repeat' (first | (refine awpL_step TT rfl rfl rfl sd ?_) | (refine awpL_nil ?_) | (refine awpL_skip rfl rfl ?_) | (refine awpQ_step TT rfl rfl rfl rfl sd ?_) | (refine awpQ_nil ?_) | (refine awpQ_skip rfl rfl ?_) | (refine awp_seq ?_) | (refine awp_region ?_) | (refine awp_block ?_) | (refine awp_exit ?_) | (refine awp_skip ?_) | (refine awp_ret ?_) | (refine awp_cond_t rfl ?_) | (refine awp_cond_f rfl ?_) | (refine awp_quiet TM rfl (by kernel_rfl) ?_) | ((first | refine awpL_split rfl rfl rfl (fun hc => ?_) (fun hc => ?_) | refine awpQ_split rfl rfl rfl (fun hc => ?_) (fun hc => ?_) | refine awp_cond rfl (fun hc => ?_) (fun hc => ?_)) <;> ((try simp at hc) <;> try contradiction)))) <;> try (exfalso; omega))
    all_goals exact fin rfl (by repeat' (first | exact trivial | exact Nat.zero_lt_one | omega | refine ⟨?_, ?_⟩)) [] (.tup [.one (.sl 2 1 0 0 0), .one (.bool false)]) [(2, .own 3 0 (.ints []))] 3 ⟨0, Nat.le_refl _, rfl, rfl, rfl⟩ rfl ⟨trivial, ⟨own_ints rfl, trivial⟩, rfl⟩ rfl
  | some s =>
    have hm : isM r c xs = true := by
      cases h : isM r c xs
      · rw [smO, h] at ho; cases ho
      · rfl
    obtain ⟨a, b, rfl, rfl, ha, hb, hx, hnum⟩ := isM_dimsH hm
    have hR : facO a b xs = some (faTo s.1 b (min a b)) := by simp [facO, ho]
    have o1 : OK3 a b s := by
      rw [smO, hm] at ho
      exact sTo_ok (s := (xs, idTo a a, idTo b b)) ⟨hx, idTo_len, idTo_len, hnum, id_num, id_num⟩ (Nat.le_refl _) ho
    have k1 := o1.x
    have hab : a * b ≤ 24 * 24 := Nat.mul_le_mul ha hb
    rw [ho] at hsm
    rw [hR]
    ((repeat' (first | (refine awpL_step TT rfl rfl rfl sd ?_) | (refine awpL_nil ?_) | (refine awpL_skip rfl rfl ?_) | (refine awpQ_step TT rfl rfl rfl rfl sd ?_) | (refine awpQ_nil ?_) | (refine awpQ_skip rfl rfl ?_) | (refine awp_seq ?_) | (refine awp_region ?_) | ((refine awpL_call (hsm) rfl rfl rfl rfl rfl rfl rfl ft rfl ?_); rintro v Hout n1 ⟨cx, cu, cv, hcx, rfl, rfl, rfl⟩) | (refine awp_block ?_) | (refine awp_exit ?_) | (refine awp_skip ?_) | (refine awp_ret ?_) | (refine awp_cond_t rfl ?_) | (refine awp_cond_f rfl ?_) | (refine awp_quiet TM rfl (by kernel_rfl) ?_) | ((first | refine awpL_split rfl rfl rfl (fun hc => ?_) (fun hc => ?_) | refine awpQ_split rfl rfl rfl (fun hc => ?_) (fun hc => ?_) | refine awp_cond rfl (fun hc => ?_) (fun hc => ?_)) <;> ((try simp at hc) <;> try contradiction)))) <;> try (exfalso; omega))
    refine awp_loop hE (fun x : Nat × Nat => x.1 ≤ min a b ∧ (faTo s.1 b x.1).length ≤ x.2) (fun x => min a b - x.1)
      (fun x => [(4, .one (.ptr 4 3 0 0)), (7, vB true), (8, vS 3 1 0 (faTo s.1 b x.1).length x.2), (9, vI x.1)]) (fun x => [(2, .own 3 cx (.ints s.1)), (3, .own 3 x.2 (.ints (faTo s.1 b x.1))), (4, .own 27 1 (.lit [.int a, .int b, .sl 2 1 0 s.1.length cx]))]) 5 [(2, 3), (3, 9), (4, 6)] (0, 0) ⟨Nat.zero_le _, Nat.le_refl _⟩ ⟨⟨rfl, rfl, sl_eqA (by simp [faTo]), rfl, trivial⟩, ⟨rfl, own_ints (by simp [faTo]), rfl, trivial⟩, rfl⟩ ?_
    rintro ⟨i, cap0⟩ ⟨hi, hc0⟩
    dsimp only at hi hc0 ⊢
    have hlen := faTo_len (xs := s.1) (c := b) (n := i)
    by_cases hgo : i < a ∧ i < b
    · obtain ⟨hia, hib⟩ := hgo
      have hd := fun cp => d_cellH a b i i s.1.length cp s.1 rfl k1 ha hb hia hib
      have hkn : ¬ ((if b < a then (b : Int) else (a : Int)) ≤ i) := by split <;> omega
      have w1 : s.1[i * b + i]?.getD 0 = s.1.getD (i * b + i) 0 := by simp
      by_cases h0 : s.1.getD (i * b + i) 0 = 0
      · have hnx : faTo s.1 b (i + 1) = faTo s.1 b i := by rw [faTo, if_neg (fun h => h h0)]
        ((repeat' (first | (refine awpL_step TT rfl rfl rfl sd ?_) | (refine awpL_nil ?_) | (refine awpL_skip rfl rfl ?_) | (refine awpQ_step TT rfl rfl rfl rfl sd ?_) | (refine awpQ_nil ?_) | (refine awpQ_skip rfl rfl ?_) | (refine awp_seq ?_) | (refine awp_region ?_) | (first | refine awpL_ret (hd _) rfl rfl rfl rfl rfl rfl rfl rfl ft rfl rfl ?_ | refine awpQ_ret (hd _) rfl rfl rfl rfl rfl rfl rfl rfl ft rfl rfl ?_ | refine awpHop_ret _ (hd _) rfl rfl rfl rfl rfl rfl rfl rfl rfl ft rfl rfl sb rfl ?_) | (refine awp_block ?_) | (refine awp_exit ?_) | (refine awp_skip ?_) | (refine awp_ret ?_) | (refine awp_cond_t rfl ?_) | (refine awp_cond_f rfl ?_) | (refine awp_quiet TM rfl (by kernel_rfl) ?_) | ((first | refine awpL_split rfl rfl rfl (fun hc => ?_) (fun hc => ?_) | refine awpQ_split rfl rfl rfl (fun hc => ?_) (fun hc => ?_) | refine awp_cond rfl (fun hc => ?_) (fun hc => ?_)) <;> ((try simp at hc) <;> try contradiction)))) <;> try (exfalso; omega))
        all_goals exact ⟨[], (i + 1, cap0), ⟨by dsimp only; omega, by dsimp only; rw [hnx]; exact hc0⟩, (by first | omega | (dsimp only; omega)), ⟨⟨rfl, rfl, sl_eqA (by rw [hnx]), rfl, trivial⟩, ⟨rfl, own_ints (by rw [hnx]), rfl, trivial⟩, rfl⟩⟩
      · have hnx : faTo s.1 b (i + 1) = faTo s.1 b i ++ [s.1.getD (i * b + i) 0] := by rw [faTo, if_pos h0]
        have hlx : (faTo s.1 b (i + 1)).length = (faTo s.1 b i).length + 1 := by rw [hnx, List.length_append]; rfl
        ((repeat' (first | (refine awpL_step TT rfl rfl rfl sd ?_) | (refine awpL_nil ?_) | (refine awpL_skip rfl rfl ?_) | (refine awpQ_step TT rfl rfl rfl rfl sd ?_) | (refine awpQ_nil ?_) | (refine awpQ_skip rfl rfl ?_) | (refine awp_seq ?_) | (refine awp_region ?_) | (first | refine awpL_ret (hd _) rfl rfl rfl rfl rfl rfl rfl rfl ft rfl rfl ?_ | refine awpQ_ret (hd _) rfl rfl rfl rfl rfl rfl rfl rfl ft rfl rfl ?_ | refine awpHop_ret _ (hd _) rfl rfl rfl rfl rfl rfl rfl rfl rfl ft rfl rfl sb rfl ?_) | (first | (refine awpL_append TT rfl rfl rfl rfl rfl sd ?_; intro cap hcap) | (refine awpHop_append TT _ rfl rfl rfl rfl rfl rfl sd sb rfl rfl ?_; intro cap hcap)) | (refine awp_block ?_) | (refine awp_exit ?_) | (refine awp_skip ?_) | (refine awp_ret ?_) | (refine awp_cond_t rfl ?_) | (refine awp_cond_f rfl ?_) | (refine awp_quiet TM rfl (by kernel_rfl) ?_) | ((first | refine awpL_split rfl rfl rfl (fun hc => ?_) (fun hc => ?_) | refine awpQ_split rfl rfl rfl (fun hc => ?_) (fun hc => ?_) | refine awp_cond rfl (fun hc => ?_) (fun hc => ?_)) <;> ((try simp at hc) <;> try contradiction)))) <;> try (exfalso; omega))
        all_goals exact ⟨[(3, 6)], (i + 1, cap), ⟨by dsimp only; omega, by dsimp only at *; omega⟩, (by first | omega | (dsimp only; omega)), ⟨⟨rfl, rfl, sl_eqA (by rw [hlx]), rfl, trivial⟩, ⟨rfl, own_ints hnx.symm, rfl, trivial⟩, rfl⟩⟩
    · have htm : i = min a b := by omega
      have hkn : ¬ ((i : Int) < if b < a then (b : Int) else (a : Int)) := by split <;> omega
      rw [← htm]
      ((repeat' (first | (refine awpL_step TT rfl rfl rfl sd ?_) | (refine awpL_nil ?_) | (refine awpL_skip rfl rfl ?_) | (refine awpQ_step TT rfl rfl rfl rfl sd ?_) | (refine awpQ_nil ?_) | (refine awpQ_skip rfl rfl ?_) | (refine awp_seq ?_) | (refine awp_region ?_) | (refine awp_block ?_) | (refine awp_exit ?_) | (refine awp_skip ?_) | (refine awp_ret ?_) | (refine awp_cond_t rfl ?_) | (refine awp_cond_f rfl ?_) | (refine awp_quiet TM rfl (by kernel_rfl) ?_) | ((first | refine awpL_split rfl rfl rfl (fun hc => ?_) (fun hc => ?_) | refine awpQ_split rfl rfl rfl (fun hc => ?_) (fun hc => ?_) | refine awp_cond rfl (fun hc => ?_) (fun hc => ?_)) <;> ((try simp at hc) <;> try contradiction)))) <;> try (exfalso; omega))
      all_goals exact fin rfl (by repeat' (first | exact trivial | exact Nat.zero_lt_one | omega | refine ⟨?_, ?_⟩)) [(2, 3)] (.tup [.one (.sl 2 1 0 (faTo s.1 b i).length cap0), .one (.bool true)]) [(2, .own 3 cap0 (.ints (faTo s.1 b i)))] 3 ⟨cap0, hc0, rfl, rfl, rfl⟩ rfl ⟨trivial, ⟨rfl, trivial⟩, rfl⟩ rfl
set_option maxHeartbeats 2000000 in
theorem d_gt (xs : List Int) (c : Nat) (hl : xs.length ≤ 1099511627776) : Does Try.prog 78 [vS 1 1 0 xs.length c] [(1, .ro (.ints xs))] 2 (MadeI (gtTo xs xs.length) 2) := by
  refine Does.intro TT Try.func78 rfl (by kernel_rfl) rfl rfl fun E hE => ?_
  ((repeat' (first | (refine awpL_step TT rfl rfl rfl sd ?_) | (refine awpL_nil ?_) | (refine awpL_skip rfl rfl ?_) | (refine awpQ_step TT rfl rfl rfl rfl sd ?_) | (refine awpQ_nil ?_) | (refine awpQ_skip rfl rfl ?_) | (refine awp_seq ?_) | (refine awp_region ?_) | (refine awp_block ?_) | (refine awp_exit ?_) | (refine awp_skip ?_) | (refine awp_ret ?_) | (refine awp_cond_t rfl ?_) | (refine awp_cond_f rfl ?_) | (refine awp_quiet TM rfl (by kernel_rfl) ?_) | ((first | refine awpL_split rfl rfl rfl (fun hc => ?_) (fun hc => ?_) | refine awpQ_split rfl rfl rfl (fun hc => ?_) (fun hc => ?_) | refine awp_cond rfl (fun hc => ?_) (fun hc => ?_)) <;> ((try simp at hc) <;> try contradiction)))) <;> try (exfalso; omega))
  refine awp_loop hE (fun x : Nat × Nat => x.1 ≤ xs.length ∧ (gtTo xs x.1).length ≤ x.2) (fun x => xs.length - x.1)
    (fun x => [(3, vS 2 1 0 (gtTo xs x.1).length x.2), (7, vS 1 1 0 xs.length c), (8, vI xs.length), (9, vI x.1)]) (fun x => [(1, .ro (.ints xs)), (2, .own 3 x.2 (.ints (gtTo xs x.1)))]) 3 [] (0, 0) ⟨Nat.zero_le _, Nat.le_refl _⟩ ⟨(by repeat' (first | exact trivial | refine ⟨rfl, ?_⟩ | refine ⟨congrArg some (congrArg vI (by first | omega | (simp; done) | (simp; omega))), ?_⟩ | refine ⟨sl_eqA (by first | omega | (simp; done) | (simp; omega)), ?_⟩)), (by repeat' (first | exact trivial | refine ⟨rfl, ?_⟩)), rfl⟩ ?_
  rintro ⟨i, cap0⟩ ⟨hi, hc0⟩
  dsimp only at hi hc0 ⊢
  have hlen := gtTo_len (xs := xs) (n := i)
  by_cases hia : i < xs.length
  · have hkn : ¬ (xs.length ≤ i) := by omega
    have w1 : xs[i]?.getD 0 = xs.getD i 0 := by simp
    have w0 : xs.getD (0 + (i : Int).toNat) 0 = xs.getD i 0 := by simp
    by_cases h0 : 1 < xs.getD i 0
    · have hnx : gtTo xs (i + 1) = gtTo xs i ++ [xs.getD (0 + (i : Int).toNat) 0] := by rw [gtTo, if_pos h0, w0]
      have hlx : (gtTo xs (i + 1)).length = (gtTo xs i).length + 1 := by rw [hnx, List.length_append]; rfl
      ((repeat' (first | (refine awpL_step TT rfl rfl rfl sd ?_) | (refine awpL_nil ?_) | (refine awpL_skip rfl rfl ?_) | (refine awpQ_step TT rfl rfl rfl rfl sd ?_) | (refine awpQ_nil ?_) | (refine awpQ_skip rfl rfl ?_) | (refine awp_seq ?_) | (refine awp_region ?_) | (first | (refine awpL_append TT rfl rfl rfl rfl rfl sd ?_; intro cap hcap) | (refine awpHop_append TT _ rfl rfl rfl rfl rfl rfl sd sb rfl rfl ?_; intro cap hcap)) | (refine awp_block ?_) | (refine awp_exit ?_) | (refine awp_skip ?_) | (refine awp_ret ?_) | (refine awp_cond_t rfl ?_) | (refine awp_cond_f rfl ?_) | (refine awp_quiet TM rfl (by kernel_rfl) ?_) | ((first | refine awpL_split rfl rfl rfl (fun hc => ?_) (fun hc => ?_) | refine awpQ_split rfl rfl rfl (fun hc => ?_) (fun hc => ?_) | refine awp_cond rfl (fun hc => ?_) (fun hc => ?_)) <;> ((try simp at hc) <;> try contradiction)))) <;> try (exfalso; omega))
      all_goals exact ⟨[(2, 4)], (i + 1, cap), ⟨hia, by dsimp only at *; omega⟩, (by first | omega | (dsimp only; omega)), ⟨⟨sl_eqA (by rw [hlx]), rfl, rfl, rfl, trivial⟩, ⟨rfl, own_ints hnx.symm, trivial⟩, rfl⟩⟩
    · have hnx : gtTo xs (i + 1) = gtTo xs i := by rw [gtTo, if_neg h0]
      ((repeat' (first | (refine awpL_step TT rfl rfl rfl sd ?_) | (refine awpL_nil ?_) | (refine awpL_skip rfl rfl ?_) | (refine awpQ_step TT rfl rfl rfl rfl sd ?_) | (refine awpQ_nil ?_) | (refine awpQ_skip rfl rfl ?_) | (refine awp_seq ?_) | (refine awp_region ?_) | (refine awp_block ?_) | (refine awp_exit ?_) | (refine awp_skip ?_) | (refine awp_ret ?_) | (refine awp_cond_t rfl ?_) | (refine awp_cond_f rfl ?_) | (refine awp_quiet TM rfl (by kernel_rfl) ?_) | ((first | refine awpL_split rfl rfl rfl (fun hc => ?_) (fun hc => ?_) | refine awpQ_split rfl rfl rfl (fun hc => ?_) (fun hc => ?_) | refine awp_cond rfl (fun hc => ?_) (fun hc => ?_)) <;> ((try simp at hc) <;> try contradiction)))) <;> try (exfalso; omega))
      all_goals exact ⟨[], (i + 1, cap0), ⟨hia, by dsimp only; rw [hnx]; exact hc0⟩, (by first | omega | (dsimp only; omega)), ⟨⟨sl_eqA (by rw [hnx]), rfl, rfl, rfl, trivial⟩, ⟨rfl, own_ints (by rw [hnx]), trivial⟩, rfl⟩⟩
  · have hia' : i = xs.length := by omega
    subst hia'
    ((repeat' (first | (refine awpL_step TT rfl rfl rfl sd ?_) | (refine awpL_nil ?_) | (refine awpL_skip rfl rfl ?_) | (refine awpQ_step TT rfl rfl rfl rfl sd ?_) | (refine awpQ_nil ?_) | (refine awpQ_skip rfl rfl ?_) | (refine awp_seq ?_) | (refine awp_region ?_) | (refine awp_block ?_) | (refine awp_exit ?_) | (refine awp_skip ?_) | (refine awp_ret ?_) | (refine awp_cond_t rfl ?_) | (refine awp_cond_f rfl ?_) | (refine awp_quiet TM rfl (by kernel_rfl) ?_) | ((first | refine awpL_split rfl rfl rfl (fun hc => ?_) (fun hc => ?_) | refine awpQ_split rfl rfl rfl (fun hc => ?_) (fun hc => ?_) | refine awp_cond rfl (fun hc => ?_) (fun hc => ?_)) <;> ((try simp at hc) <;> try contradiction)))) <;> try (exfalso; omega))
    all_goals exact fin rfl (by repeat' (first | exact trivial | exact Nat.zero_lt_one | omega | refine ⟨?_, ?_⟩)) [] (vS 2 1 0 (gtTo xs xs.length).length cap0) [(2, .own 3 cap0 (.ints (gtTo xs xs.length)))] 3 ⟨cap0, hc0, rfl, rfl, rfl⟩ rfl ⟨trivial, ⟨rfl, trivial⟩, rfl⟩ rfl
end Go.Proofs.Ytmkoifmokdmebaa
