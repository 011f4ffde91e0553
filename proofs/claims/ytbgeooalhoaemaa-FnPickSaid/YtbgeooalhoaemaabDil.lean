/-
  CONTRACTS: the whole points of a polygon made k times as large, of both packages.
-/
import Derived.Test.YtbgeooalhoaemaabSides
import Derived.Test.YtbgeooalhoaemaabDiv
set_option linter.unusedVariables false
set_option linter.unusedSimpArgs false
namespace Go.Proofs.Ytbgeooalhoaemaa
open Go.RowKit

def DilV (ps : List (Int × Int)) (k : Int) : AV := match polyP ps && inB k 0 20 with
  | true => .tup [.one (.int (dilN ps k (20 * k + 1).toNat)), .one (.bool true)]
  | false => .tup [.one (.int 0), .one (.bool false)]
theorem bit_bd (b : Bool) : 0 ≤ bit b ∧ bit b ≤ 1 := by cases b <;> decide
theorem sumZ_bd {f : Int → Int} {a M : Int} (h : ∀ x, 0 ≤ f x ∧ f x ≤ M) : ∀ n : Nat, 0 ≤ sumZ f a n ∧ sumZ f a n ≤ n * M
  | 0 => by simp [sumZ]
  | n + 1 => by
    have ih := sumZ_bd (a := a) h n
    have := h (a + n)
    have e : ((n + 1 : Nat) : Int) * M = n * M + M := by rw [Int.natCast_add, Int.add_mul]; omega
    rw [sumZ, e]
    omega
theorem col_bd {ps : List (Int × Int)} {k x : Int} {m : Nat} (hm : m ≤ 401) : 0 ≤ sumZ (fun y => bit (inPk ps k x y)) (-10 * k) m ∧ sumZ (fun y => bit (inPk ps k x y)) (-10 * k) m ≤ 401 := by
  have := sumZ_bd (f := fun y => bit (inPk ps k x y)) (a := -10 * k) (fun y => bit_bd _) m
  omega
theorem dil_bd {ps : List (Int × Int)} {k : Int} {n m : Nat} (hn : n ≤ 401) (hm : m ≤ 401) : 0 ≤ sumZ (fun x => sumZ (fun y => bit (inPk ps k x y)) (-10 * k) n) (-10 * k) m ∧ sumZ (fun x => sumZ (fun y => bit (inPk ps k x y)) (-10 * k) n) (-10 * k) m ≤ 401 * 401 := by
  have := sumZ_bd (f := fun x => sumZ (fun y => bit (inPk ps k x y)) (-10 * k) n) (a := -10 * k) (M := 401) (fun x => col_bd hn) m
  have h2 : (m : Int) * 401 ≤ 401 * 401 := Int.mul_le_mul_of_nonneg_right (by omega) (by omega)
  omega
theorem prodAB' {a b A B : Int} (h1 : -A ≤ a) (h2 : a ≤ A) (h3 : -B ≤ b) (h4 : b ≤ B) : -(A * B) ≤ a * b ∧ a * b ≤ A * B := mul_bd h1 h2 h3 h4
theorem inTk_false {ps : List (Int × Int)} {k x y : Int} {m : Nat} (h : inTk ps k x y m = false) : ∀ j, inTk ps k x y (m + j) = false
  | 0 => h
  | j + 1 => by rw [← Nat.add_assoc, inTk, inTk_false h j]; rfl
set_option maxRecDepth 100000 in
set_option maxHeartbeats 8000000 in
theorem d_dilI (ps : List (Int × Int)) (c : Nat) (k : Int) (hl : ps.length ≤ 1099511627776) : Does Try.prog 36 [vQ 1 ps.length c, vI k] [(1, .ro (.i2 ps))] 2 (Ret (DilV ps k) 2) := by
  refine Does.intro TT Try.func36 rfl (by kernel_rfl) rfl rfl fun E hE => ?_
  have hp := d_polyI ps c hl
  have hs := fun c => d_sidesI ps c hl
  unfold SidesR at hs
  cases hb : polyP ps
  all_goals rw [hb] at hp hs
  · have hv : DilV ps k = .tup [.one (.int 0), .one (.bool false)] := by rw [DilV, hb]; rfl
    rw [hv]
    ((repeat' (first | (refine awpL_step TT rfl rfl rfl sd ?_) | (refine awpL_nil ?_) | (refine awpL_skip rfl rfl ?_) | (refine awpQ_step TT rfl rfl rfl rfl sd ?_) | (refine awpQ_nil ?_) | (refine awpQ_skip rfl rfl ?_) | (refine awp_seq ?_) | (refine awp_region ?_) | (first | refine awpL_ret (hp) rfl rfl rfl rfl rfl rfl rfl rfl ft rfl rfl ?_ | refine awpQ_ret (hp) rfl rfl rfl rfl rfl rfl rfl rfl ft rfl rfl ?_ | refine awpHop_ret _ (hp) rfl rfl rfl rfl rfl rfl rfl rfl rfl ft rfl rfl sb rfl ?_) | (refine awp_block ?_) | (refine awp_exit ?_) | (refine awp_skip ?_) | (refine awp_ret ?_) | (refine awp_cond_t rfl ?_) | (refine awp_cond_f rfl ?_) | (refine awp_quiet TM rfl (by kernel_rfl) ?_) | ((first | refine awpL_split rfl rfl rfl (fun hc => ?_) (fun hc => ?_) | refine awpQ_split rfl rfl rfl (fun hc => ?_) (fun hc => ?_) | refine awp_cond rfl (fun hc => ?_) (fun hc => ?_)) <;> ((try simp at hc) <;> try contradiction)))) <;> try (exfalso; omega))
    all_goals refine fin_ret rfl (by repeat' (first | exact trivial | exact Nat.zero_lt_one | omega | refine ⟨?_, ?_⟩)) (rfl) rfl
  · cases hk : inB k 0 20
    · have hv : DilV ps k = .tup [.one (.int 0), .one (.bool false)] := by rw [DilV, hb, hk]; rfl
      have hk' := inB_false.1 hk
      rw [hv]
      ((repeat' (first | (refine awpL_step TT rfl rfl rfl sd ?_) | (refine awpL_nil ?_) | (refine awpL_skip rfl rfl ?_) | (refine awpQ_step TT rfl rfl rfl rfl sd ?_) | (refine awpQ_nil ?_) | (refine awpQ_skip rfl rfl ?_) | (refine awp_seq ?_) | (refine awp_region ?_) | (first | refine awpL_ret (hp) rfl rfl rfl rfl rfl rfl rfl rfl ft rfl rfl ?_ | refine awpQ_ret (hp) rfl rfl rfl rfl rfl rfl rfl rfl ft rfl rfl ?_ | refine awpHop_ret _ (hp) rfl rfl rfl rfl rfl rfl rfl rfl rfl ft rfl rfl sb rfl ?_) | (refine awp_block ?_) | (refine awp_exit ?_) | (refine awp_skip ?_) | (refine awp_ret ?_) | (refine awp_cond_t rfl ?_) | (refine awp_cond_f rfl ?_) | (refine awp_quiet TM rfl (by kernel_rfl) ?_) | ((first | refine awpL_split rfl rfl rfl (fun hc => ?_) (fun hc => ?_) | refine awpQ_split rfl rfl rfl (fun hc => ?_) (fun hc => ?_) | refine awp_cond rfl (fun hc => ?_) (fun hc => ?_)) <;> ((try simp at hc) <;> try contradiction)))) <;> try (exfalso; omega))
      all_goals refine fin_ret rfl (by repeat' (first | exact trivial | exact Nat.zero_lt_one | omega | refine ⟨?_, ?_⟩)) (rfl) rfl
    · have hv : DilV ps k = .tup [.one (.int (dilN ps k (20 * k + 1).toNat)), .one (.bool true)] := by rw [DilV, hb, hk]; rfl
      have hk' := inB_true.1 hk
      have h8 := (polyP_no hb).1
      have lA := sidesA_len (ps := ps) (n := ps.length)
      have lB := sidesB_len (ps := ps) (n := ps.length)
      obtain ⟨N, hN⟩ : ∃ N, N = (20 * k + 1).toNat := ⟨_, rfl⟩
      rw [hv, ← hN]
      ((repeat' (first | (refine awpL_step TT rfl rfl rfl sd ?_) | (refine awpL_nil ?_) | (refine awpL_skip rfl rfl ?_) | (refine awpQ_step TT rfl rfl rfl rfl sd ?_) | (refine awpQ_nil ?_) | (refine awpQ_skip rfl rfl ?_) | (refine awp_seq ?_) | (refine awp_region ?_) | (first | refine awpL_ret (hp) rfl rfl rfl rfl rfl rfl rfl rfl ft rfl rfl ?_ | refine awpQ_ret (hp) rfl rfl rfl rfl rfl rfl rfl rfl ft rfl rfl ?_ | refine awpHop_ret _ (hp) rfl rfl rfl rfl rfl rfl rfl rfl rfl ft rfl rfl sb rfl ?_) | ((refine awpL_call (hs _) rfl rfl rfl rfl rfl rfl rfl ft rfl ?_); rintro v Hout n1 ⟨ca, cb, hca, hcb, rfl, rfl, rfl⟩) | (refine awp_block ?_) | (refine awp_exit ?_) | (refine awp_skip ?_) | (refine awp_ret ?_) | (refine awp_cond_t rfl ?_) | (refine awp_cond_f rfl ?_) | (refine awp_quiet TM rfl (by kernel_rfl) ?_) | ((first | refine awpL_split rfl rfl rfl (fun hc => ?_) (fun hc => ?_) | refine awpQ_split rfl rfl rfl (fun hc => ?_) (fun hc => ?_) | refine awp_cond rfl (fun hc => ?_) (fun hc => ?_)) <;> ((try simp at hc) <;> try contradiction)))) <;> try (exfalso; omega))
      refine awp_loop hE (fun m : Nat => m ≤ N) (fun m => N - m)
        (fun m => [(1, vI k), (6, .one (.ptr 4 3 0 0)), (7, vS 3 1 0 (sidesB ps ps.length).length cb), (9, vI (sumZ (fun x => sumZ (fun y => bit (inPk ps k x y)) (-10 * k) N) (-10 * k) m)), (10, vI (-10 * k + m))])
        (fun _ => [(2, .own 3 ca (.ints (sidesA ps ps.length))), (3, .own 3 cb (.ints (sidesB ps ps.length))), (4, .own 27 1 (.lit [.int ps.length, .int 2, .sl 2 1 0 (sidesA ps ps.length).length ca]))]) 5 [] 0 (Nat.zero_le _) ⟨(by repeat' (first | exact trivial | refine ⟨rfl, ?_⟩ | refine ⟨congrArg some (congrArg vI (by first | omega | (simp; done) | (simp; omega))), ?_⟩ | refine ⟨sl_eqA (by first | omega | (simp; done) | (simp; omega)), ?_⟩)), (by repeat' (first | exact trivial | refine ⟨rfl, ?_⟩)), rfl⟩ ?_
      intro m hm
      have t1 := dil_bd (ps := ps) (k := k) (n := N) (m := m) (by omega) (by omega)
      by_cases hmN : m < N
      · have hz : sumZ (fun y => bit (inPk ps k (-10 * k + m) y)) (-10 * k) 0 = 0 := rfl
        ((repeat' (first | (refine awpL_step TT rfl rfl rfl sd ?_) | (refine awpL_nil ?_) | (refine awpL_skip rfl rfl ?_) | (refine awpQ_step TT rfl rfl rfl rfl sd ?_) | (refine awpQ_nil ?_) | (refine awpQ_skip rfl rfl ?_) | (refine awp_seq ?_) | (refine awp_region ?_) | (refine awp_block ?_) | (refine awp_exit ?_) | (refine awp_skip ?_) | (refine awp_ret ?_) | (refine awp_cond_t rfl ?_) | (refine awp_cond_f rfl ?_) | (refine awp_quiet TM rfl (by kernel_rfl) ?_) | ((first | refine awpL_split rfl rfl rfl (fun hc => ?_) (fun hc => ?_) | refine awpQ_split rfl rfl rfl (fun hc => ?_) (fun hc => ?_) | refine awp_cond rfl (fun hc => ?_) (fun hc => ?_)) <;> ((try simp at hc) <;> try contradiction)))) <;> try (exfalso; omega))
        refine awp_loop hE (fun q : Nat => q ≤ N) (fun q => N - q)
          (fun q => [(1, vI k), (6, .one (.ptr 4 3 0 0)), (7, vS 3 1 0 (sidesB ps ps.length).length cb), (9, vI (sumZ (fun x => sumZ (fun y => bit (inPk ps k x y)) (-10 * k) N) (-10 * k) m + sumZ (fun y => bit (inPk ps k (-10 * k + m) y)) (-10 * k) q)), (10, vI (-10 * k + m)), (11, vI (-10 * k + q))])
          (fun _ => [(2, .own 3 ca (.ints (sidesA ps ps.length))), (3, .own 3 cb (.ints (sidesB ps ps.length))), (4, .own 27 1 (.lit [.int ps.length, .int 2, .sl 2 1 0 (sidesA ps ps.length).length ca]))]) 5 [] 0 (Nat.zero_le _) ⟨(by repeat' (first | exact trivial | refine ⟨rfl, ?_⟩ | refine ⟨congrArg some (congrArg vI (by first | omega | (simp; done) | (simp; omega))), ?_⟩ | refine ⟨sl_eqA (by first | omega | (simp; done) | (simp; omega)), ?_⟩)), (by repeat' (first | exact trivial | refine ⟨rfl, ?_⟩)), rfl⟩ ?_
        intro q hq
        have t2 := col_bd (ps := ps) (k := k) (x := -10 * k + m) (m := q) (by omega)
        by_cases hqN : q < N
        · ((repeat' (first | (refine awpL_step TT rfl rfl rfl sd ?_) | (refine awpL_nil ?_) | (refine awpL_skip rfl rfl ?_) | (refine awpQ_step TT rfl rfl rfl rfl sd ?_) | (refine awpQ_nil ?_) | (refine awpQ_skip rfl rfl ?_) | (refine awp_seq ?_) | (refine awp_region ?_) | (refine awp_block ?_) | (refine awp_exit ?_) | (refine awp_skip ?_) | (refine awp_ret ?_) | (refine awp_cond_t rfl ?_) | (refine awp_cond_f rfl ?_) | (refine awp_quiet TM rfl (by kernel_rfl) ?_) | ((first | refine awpL_split rfl rfl rfl (fun hc => ?_) (fun hc => ?_) | refine awpQ_split rfl rfl rfl (fun hc => ?_) (fun hc => ?_) | refine awp_cond rfl (fun hc => ?_) (fun hc => ?_)) <;> ((try simp at hc) <;> try contradiction)))) <;> try (exfalso; omega))
          refine awp_loop hE (fun i : Nat × Bool => i.1 ≤ ps.length ∧ inTk ps k (-10 * k + m) (-10 * k + q) i.1 = i.2) (fun i => ps.length - i.1)
            (fun i => [(1, vI k), (6, .one (.ptr 4 3 0 0)), (7, vS 3 1 0 (sidesB ps ps.length).length cb), (9, vI (sumZ (fun x => sumZ (fun y => bit (inPk ps k x y)) (-10 * k) N) (-10 * k) m + sumZ (fun y => bit (inPk ps k (-10 * k + m) y)) (-10 * k) q)), (10, vI (-10 * k + m)), (11, vI (-10 * k + q)), (12, vB i.2), (13, vI i.1)])
            (fun _ => [(2, .own 3 ca (.ints (sidesA ps ps.length))), (3, .own 3 cb (.ints (sidesB ps ps.length))), (4, .own 27 1 (.lit [.int ps.length, .int 2, .sl 2 1 0 (sidesA ps ps.length).length ca]))]) 5 [] (0, true) ⟨Nat.zero_le _, rfl⟩ ⟨(by repeat' (first | exact trivial | refine ⟨rfl, ?_⟩ | refine ⟨congrArg some (congrArg vI (by first | omega | (simp; done) | (simp; omega))), ?_⟩ | refine ⟨sl_eqA (by first | omega | (simp; done) | (simp; omega)), ?_⟩)), (by repeat' (first | exact trivial | refine ⟨rfl, ?_⟩)), rfl⟩ ?_
          rintro ⟨i, b⟩ ⟨hi, hin⟩
          dsimp only at hi hin ⊢
          cases b
          · have hF : inPk ps k (-10 * k + m) (-10 * k + q) = false := by
              have := inTk_false hin (ps.length - i)
              rwa [show i + (ps.length - i) = ps.length by omega] at this
            have hZ : sumZ (fun y => bit (inPk ps k (-10 * k + m) y)) (-10 * k) (q + 1) = sumZ (fun y => bit (inPk ps k (-10 * k + m) y)) (-10 * k) q := by rw [sumZ, hF]; simp [bit]
            ((repeat' (first | (refine awpL_step TT rfl rfl rfl sd ?_) | (refine awpL_nil ?_) | (refine awpL_skip rfl rfl ?_) | (refine awpQ_step TT rfl rfl rfl rfl sd ?_) | (refine awpQ_nil ?_) | (refine awpQ_skip rfl rfl ?_) | (refine awp_seq ?_) | (refine awp_region ?_) | (refine awp_block ?_) | (refine awp_exit ?_) | (refine awp_skip ?_) | (refine awp_ret ?_) | (refine awp_cond_t rfl ?_) | (refine awp_cond_f rfl ?_) | (refine awp_quiet TM rfl (by kernel_rfl) ?_) | ((first | refine awpL_split rfl rfl rfl (fun hc => ?_) (fun hc => ?_) | refine awpQ_split rfl rfl rfl (fun hc => ?_) (fun hc => ?_) | refine awp_cond rfl (fun hc => ?_) (fun hc => ?_)) <;> ((try simp at hc) <;> try contradiction)))) <;> try (exfalso; omega))
            all_goals exact ⟨[], q + 1, hqN, (by first | omega | (dsimp only; omega)), ⟨⟨rfl, rfl, rfl, congrArg some (congrArg vI (by rw [hZ])), rfl, congrArg some (congrArg vI (by omega)), trivial⟩, ⟨rfl, rfl, rfl, trivial⟩, rfl⟩⟩
          · by_cases hil : i < ps.length
            · obtain ⟨b1, b2, b3, b4, b5⟩ := sd_bd hb hil
              have a0 := d_at ps.length 2 i 0 (sidesA ps ps.length) ca (by omega) (by omega) (by omega) (by omega)
              have a1 := d_at ps.length 2 i 1 (sidesA ps ps.length) ca (by omega) (by omega) (by omega) (by omega)
              have eA := sidesA_at (ps := ps) hil
              have eB := sidesB_at (ps := ps) hil
              rw [show 0 + ((i : Int) * 2 + 0).toNat = i * 2 by omega, eA.1] at a0
              rw [show 0 + ((i : Int) * 2 + 1).toNat = i * 2 + 1 by omega, eA.2] at a1
              have g1 : (sidesB ps ps.length).getD (0 + (i : Int).toNat) 0 = sdB ps i := by rw [show 0 + (i : Int).toNat = i by omega, eB]
              have m1 := mul_bd (A := 20) (B := 200) (a := sdX ps i) (b := -10 * k + m) (by omega) (by omega) (by omega) (by omega)
              have m2 := mul_bd (A := 20) (B := 200) (a := sdY ps i) (b := -10 * k + q) (by omega) (by omega) (by omega) (by omega)
              have m3 := mul_bd (A := 20) (B := 400) (a := k) (b := (sidesB ps ps.length).getD (0 + (i : Int).toNat) 0) (by omega) (by omega) (by omega) (by omega)
              have hnx : inTk ps k (-10 * k + m) (-10 * k + q) (i + 1) = decide (sdX ps i * (-10 * k + m) + sdY ps i * (-10 * k + q) ≤ k * (sidesB ps ps.length).getD (0 + (i : Int).toNat) 0) := by rw [inTk, hin, g1]; rfl
              ((repeat' (first | (refine awpL_step TT rfl rfl rfl sd ?_) | (refine awpL_nil ?_) | (refine awpL_skip rfl rfl ?_) | (refine awpQ_step TT rfl rfl rfl rfl sd ?_) | (refine awpQ_nil ?_) | (refine awpQ_skip rfl rfl ?_) | (refine awp_seq ?_) | (refine awp_region ?_) | (first | refine awpL_ret (a0) rfl rfl rfl rfl rfl rfl rfl rfl ft rfl rfl ?_ | refine awpQ_ret (a0) rfl rfl rfl rfl rfl rfl rfl rfl ft rfl rfl ?_ | refine awpHop_ret _ (a0) rfl rfl rfl rfl rfl rfl rfl rfl rfl ft rfl rfl sb rfl ?_) | (first | refine awpL_ret (a1) rfl rfl rfl rfl rfl rfl rfl rfl ft rfl rfl ?_ | refine awpQ_ret (a1) rfl rfl rfl rfl rfl rfl rfl rfl ft rfl rfl ?_ | refine awpHop_ret _ (a1) rfl rfl rfl rfl rfl rfl rfl rfl rfl ft rfl rfl sb rfl ?_) | (refine awp_block ?_) | (refine awp_exit ?_) | (refine awp_skip ?_) | (refine awp_ret ?_) | (refine awp_cond_t rfl ?_) | (refine awp_cond_f rfl ?_) | (refine awp_quiet TM rfl (by kernel_rfl) ?_) | ((first | refine awpL_split rfl rfl rfl (fun hc => ?_) (fun hc => ?_) | refine awpQ_split rfl rfl rfl (fun hc => ?_) (fun hc => ?_) | refine awp_cond rfl (fun hc => ?_) (fun hc => ?_)) <;> ((try simp at hc) <;> try contradiction)))) <;> try (exfalso; omega))
              all_goals exact ⟨[], (i + 1, _), ⟨hil, hnx⟩, (by first | omega | (dsimp only; omega)), ⟨⟨rfl, rfl, rfl, rfl, rfl, rfl, rfl, congrArg some (congrArg vI (by omega)), trivial⟩, ⟨rfl, rfl, rfl, trivial⟩, rfl⟩⟩
            · obtain rfl : i = ps.length := by omega
              have hZ : sumZ (fun y => bit (inPk ps k (-10 * k + m) y)) (-10 * k) (q + 1) = sumZ (fun y => bit (inPk ps k (-10 * k + m) y)) (-10 * k) q + 1 := by rw [sumZ, inPk, hin]; simp [bit]
              ((repeat' (first | (refine awpL_step TT rfl rfl rfl sd ?_) | (refine awpL_nil ?_) | (refine awpL_skip rfl rfl ?_) | (refine awpQ_step TT rfl rfl rfl rfl sd ?_) | (refine awpQ_nil ?_) | (refine awpQ_skip rfl rfl ?_) | (refine awp_seq ?_) | (refine awp_region ?_) | (refine awp_block ?_) | (refine awp_exit ?_) | (refine awp_skip ?_) | (refine awp_ret ?_) | (refine awp_cond_t rfl ?_) | (refine awp_cond_f rfl ?_) | (refine awp_quiet TM rfl (by kernel_rfl) ?_) | ((first | refine awpL_split rfl rfl rfl (fun hc => ?_) (fun hc => ?_) | refine awpQ_split rfl rfl rfl (fun hc => ?_) (fun hc => ?_) | refine awp_cond rfl (fun hc => ?_) (fun hc => ?_)) <;> ((try simp at hc) <;> try contradiction)))) <;> try (exfalso; omega))
              all_goals exact ⟨[], q + 1, hqN, (by first | omega | (dsimp only; omega)), ⟨⟨rfl, rfl, rfl, congrArg some (congrArg vI (by omega)), rfl, congrArg some (congrArg vI (by omega)), trivial⟩, ⟨rfl, rfl, rfl, trivial⟩, rfl⟩⟩
        · obtain rfl : q = N := by omega
          ((repeat' (first | (refine awpL_step TT rfl rfl rfl sd ?_) | (refine awpL_nil ?_) | (refine awpL_skip rfl rfl ?_) | (refine awpQ_step TT rfl rfl rfl rfl sd ?_) | (refine awpQ_nil ?_) | (refine awpQ_skip rfl rfl ?_) | (refine awp_seq ?_) | (refine awp_region ?_) | (refine awp_block ?_) | (refine awp_exit ?_) | (refine awp_skip ?_) | (refine awp_ret ?_) | (refine awp_cond_t rfl ?_) | (refine awp_cond_f rfl ?_) | (refine awp_quiet TM rfl (by kernel_rfl) ?_) | ((first | refine awpL_split rfl rfl rfl (fun hc => ?_) (fun hc => ?_) | refine awpQ_split rfl rfl rfl (fun hc => ?_) (fun hc => ?_) | refine awp_cond rfl (fun hc => ?_) (fun hc => ?_)) <;> ((try simp at hc) <;> try contradiction)))) <;> try (exfalso; omega))
          all_goals exact ⟨[], m + 1, hmN, (by first | omega | (dsimp only; omega)), ⟨⟨rfl, rfl, rfl, rfl, congrArg some (congrArg vI (by omega)), trivial⟩, ⟨rfl, rfl, rfl, trivial⟩, rfl⟩⟩
      · obtain rfl : m = N := by omega
        ((repeat' (first | (refine awpL_step TT rfl rfl rfl sd ?_) | (refine awpL_nil ?_) | (refine awpL_skip rfl rfl ?_) | (refine awpQ_step TT rfl rfl rfl rfl sd ?_) | (refine awpQ_nil ?_) | (refine awpQ_skip rfl rfl ?_) | (refine awp_seq ?_) | (refine awp_region ?_) | (refine awp_block ?_) | (refine awp_exit ?_) | (refine awp_skip ?_) | (refine awp_ret ?_) | (refine awp_cond_t rfl ?_) | (refine awp_cond_f rfl ?_) | (refine awp_quiet TM rfl (by kernel_rfl) ?_) | ((first | refine awpL_split rfl rfl rfl (fun hc => ?_) (fun hc => ?_) | refine awpQ_split rfl rfl rfl (fun hc => ?_) (fun hc => ?_) | refine awp_cond rfl (fun hc => ?_) (fun hc => ?_)) <;> ((try simp at hc) <;> try contradiction)))) <;> try (exfalso; omega))
        all_goals refine fin_ret rfl (by repeat' (first | exact trivial | exact Nat.zero_lt_one | omega | refine ⟨?_, ?_⟩)) (rfl) rfl
theorem ediv_bd {a b M : Int} (h : -M ≤ a ∧ a ≤ M) : -M ≤ a / b ∧ a / b ≤ M := by
  have := Int.natAbs_ediv_le_natAbs a b
  omega
theorem loHi_bd {ps : List (Int × Int)} (hp : polyP ps = true) {k y : Int} (hk : 0 ≤ k ∧ k ≤ 20) (hy : -200 ≤ y ∧ y ≤ 200) : ∀ {m : Nat}, m ≤ ps.length → (-12000 ≤ (loHi ps k y m).1 ∧ (loHi ps k y m).1 ≤ 12000) ∧ -12001 ≤ (loHi ps k y m).2 ∧ (loHi ps k y m).2 ≤ 12000
  | 0, _ => by simp only [loHi]; omega
  | m + 1, h => by
    have ih := loHi_bd hp hk hy (m := m) (by omega)
    obtain ⟨b1, b2, b3, -, -⟩ := sd_bd hp (show m < ps.length by omega)
    have m1 := mul_bd (A := 20) (B := 400) (a := k) (b := sdB ps m) (by omega) (by omega) (by omega) (by omega)
    have m2 := mul_bd (A := 20) (B := 200) (a := sdY ps m) (b := y) (by omega) (by omega) (by omega) (by omega)
    have q1 := ediv_bd (M := 12000) (a := k * sdB ps m - sdY ps m * y) (b := sdX ps m) (by omega)
    have q2 := ediv_bd (M := 12000) (a := k * sdB ps m - sdY ps m * y) (b := -sdX ps m) (by omega)
    simp only [loHi]
    split
    · dsimp only; omega
    · split
      · dsimp only; omega
      · split
        · dsimp only; omega
        · exact ih
theorem row_bd {ps : List (Int × Int)} {k y : Int} {N : Nat} (hk : 0 ≤ k ∧ k ≤ 20) (hN : (N : Int) = 20 * k + 1) : 0 ≤ rowN (loHi ps k y ps.length) ∧ rowN (loHi ps k y ps.length) ≤ 401 := by
  have h := sumZ_bd (f := fun x => bit (inPk ps k x y)) (a := -10 * k) (fun x => bit_bd _) N
  rw [row_cnt hN] at h
  omega
set_option maxRecDepth 100000 in
set_option maxHeartbeats 8000000 in
theorem d_dilS (ps : List (Int × Int)) (c : Nat) (k : Int) (hl : ps.length ≤ 1099511627776) : Does Try.prog 35 [vQ 1 ps.length c, vI k] [(1, .ro (.i2 ps))] 2 (Ret (DilV ps k) 2) := by
  refine Does.intro TT Try.func35 rfl (by kernel_rfl) rfl rfl fun E hE => ?_
  have hp := d_polyS ps c hl
  have hin := d_l1In k 0 20
  cases hb : polyP ps
  all_goals rw [hb] at hp
  · have hv : DilV ps k = .tup [.one (.int 0), .one (.bool false)] := by rw [DilV, hb]; rfl
    rw [hv]
    ((repeat' (first | (refine awpL_step TT rfl rfl rfl sd ?_) | (refine awpL_nil ?_) | (refine awpL_skip rfl rfl ?_) | (refine awpQ_step TT rfl rfl rfl rfl sd ?_) | (refine awpQ_nil ?_) | (refine awpQ_skip rfl rfl ?_) | (refine awp_seq ?_) | (refine awp_region ?_) | (first | refine awpL_ret (hp) rfl rfl rfl rfl rfl rfl rfl rfl ft rfl rfl ?_ | refine awpQ_ret (hp) rfl rfl rfl rfl rfl rfl rfl rfl ft rfl rfl ?_ | refine awpHop_ret _ (hp) rfl rfl rfl rfl rfl rfl rfl rfl rfl ft rfl rfl sb rfl ?_) | (first | refine awpL_ret (hin) rfl rfl rfl rfl rfl rfl rfl rfl ft rfl rfl ?_ | refine awpQ_ret (hin) rfl rfl rfl rfl rfl rfl rfl rfl ft rfl rfl ?_ | refine awpHop_ret _ (hin) rfl rfl rfl rfl rfl rfl rfl rfl rfl ft rfl rfl sb rfl ?_) | (refine awp_block ?_) | (refine awp_exit ?_) | (refine awp_skip ?_) | (refine awp_ret ?_) | (refine awp_cond_t rfl ?_) | (refine awp_cond_f rfl ?_) | (refine awp_quiet TM rfl (by kernel_rfl) ?_) | ((first | refine awpL_split rfl rfl rfl (fun hc => ?_) (fun hc => ?_) | refine awpQ_split rfl rfl rfl (fun hc => ?_) (fun hc => ?_) | refine awp_cond rfl (fun hc => ?_) (fun hc => ?_)) <;> ((try simp at hc) <;> try contradiction)))) <;> try (exfalso; omega))
    all_goals refine fin_ret rfl (by repeat' (first | exact trivial | exact Nat.zero_lt_one | omega | refine ⟨?_, ?_⟩)) (rfl) rfl
  · cases hk : inB k 0 20
    · have hv : DilV ps k = .tup [.one (.int 0), .one (.bool false)] := by rw [DilV, hb, hk]; rfl
      rw [hk] at hin
      rw [hv]
      ((repeat' (first | (refine awpL_step TT rfl rfl rfl sd ?_) | (refine awpL_nil ?_) | (refine awpL_skip rfl rfl ?_) | (refine awpQ_step TT rfl rfl rfl rfl sd ?_) | (refine awpQ_nil ?_) | (refine awpQ_skip rfl rfl ?_) | (refine awp_seq ?_) | (refine awp_region ?_) | (first | refine awpL_ret (hp) rfl rfl rfl rfl rfl rfl rfl rfl ft rfl rfl ?_ | refine awpQ_ret (hp) rfl rfl rfl rfl rfl rfl rfl rfl ft rfl rfl ?_ | refine awpHop_ret _ (hp) rfl rfl rfl rfl rfl rfl rfl rfl rfl ft rfl rfl sb rfl ?_) | (first | refine awpL_ret (hin) rfl rfl rfl rfl rfl rfl rfl rfl ft rfl rfl ?_ | refine awpQ_ret (hin) rfl rfl rfl rfl rfl rfl rfl rfl ft rfl rfl ?_ | refine awpHop_ret _ (hin) rfl rfl rfl rfl rfl rfl rfl rfl rfl ft rfl rfl sb rfl ?_) | (refine awp_block ?_) | (refine awp_exit ?_) | (refine awp_skip ?_) | (refine awp_ret ?_) | (refine awp_cond_t rfl ?_) | (refine awp_cond_f rfl ?_) | (refine awp_quiet TM rfl (by kernel_rfl) ?_) | ((first | refine awpL_split rfl rfl rfl (fun hc => ?_) (fun hc => ?_) | refine awpQ_split rfl rfl rfl (fun hc => ?_) (fun hc => ?_) | refine awp_cond rfl (fun hc => ?_) (fun hc => ?_)) <;> ((try simp at hc) <;> try contradiction)))) <;> try (exfalso; omega))
      all_goals refine fin_ret rfl (by repeat' (first | exact trivial | exact Nat.zero_lt_one | omega | refine ⟨?_, ?_⟩)) (rfl) rfl
    · obtain ⟨N, hN⟩ : ∃ N, N = (20 * k + 1).toNat := ⟨_, rfl⟩
      have hk' := inB_true.1 hk
      have hNk : (N : Int) = 20 * k + 1 := by omega
      have hv : DilV ps k = .tup [.one (.int (sumZ (fun y => rowN (loHi ps k y ps.length)) (-10 * k) N)), .one (.bool true)] := by rw [DilV, hb, hk, ← hN, dil_rows hNk]; rfl
      rw [hk] at hin
      have h8 := (polyP_no hb).1
      rw [hv]
      ((repeat' (first | (refine awpL_step TT rfl rfl rfl sd ?_) | (refine awpL_nil ?_) | (refine awpL_skip rfl rfl ?_) | (refine awpQ_step TT rfl rfl rfl rfl sd ?_) | (refine awpQ_nil ?_) | (refine awpQ_skip rfl rfl ?_) | (refine awp_seq ?_) | (refine awp_region ?_) | (first | refine awpL_ret (hp) rfl rfl rfl rfl rfl rfl rfl rfl ft rfl rfl ?_ | refine awpQ_ret (hp) rfl rfl rfl rfl rfl rfl rfl rfl ft rfl rfl ?_ | refine awpHop_ret _ (hp) rfl rfl rfl rfl rfl rfl rfl rfl rfl ft rfl rfl sb rfl ?_) | (first | refine awpL_ret (hin) rfl rfl rfl rfl rfl rfl rfl rfl ft rfl rfl ?_ | refine awpQ_ret (hin) rfl rfl rfl rfl rfl rfl rfl rfl ft rfl rfl ?_ | refine awpHop_ret _ (hin) rfl rfl rfl rfl rfl rfl rfl rfl rfl ft rfl rfl sb rfl ?_) | (refine awp_block ?_) | (refine awp_exit ?_) | (refine awp_skip ?_) | (refine awp_ret ?_) | (refine awp_cond_t rfl ?_) | (refine awp_cond_f rfl ?_) | (refine awp_quiet TM rfl (by kernel_rfl) ?_) | ((first | refine awpL_split rfl rfl rfl (fun hc => ?_) (fun hc => ?_) | refine awpQ_split rfl rfl rfl (fun hc => ?_) (fun hc => ?_) | refine awp_cond rfl (fun hc => ?_) (fun hc => ?_)) <;> ((try simp at hc) <;> try contradiction)))) <;> try (exfalso; omega))
      refine awp_loop hE (fun q : Nat => q ≤ N) (fun q => N - q)
        (fun q => [(0, vQ 1 ps.length c), (1, vI k), (6, vI (sumZ (fun y => rowN (loHi ps k y ps.length)) (-10 * k) q)), (7, vI (-10 * k + q))])
        (fun _ => [(1, .ro (.i2 ps))]) 2 [] 0 (Nat.zero_le _) ⟨(by repeat' (first | exact trivial | refine ⟨rfl, ?_⟩ | refine ⟨congrArg some (congrArg vI (by first | omega | (simp; done) | (simp; omega))), ?_⟩ | refine ⟨sl_eqA (by first | omega | (simp; done) | (simp; omega)), ?_⟩)), (by repeat' (first | exact trivial | refine ⟨rfl, ?_⟩)), rfl⟩ ?_
      intro q hq
      have t1 := sumZ_bd (f := fun y => rowN (loHi ps k y ps.length)) (a := -10 * k) (fun y => row_bd hk' hNk) q
      by_cases hqN : q < N
      · ((repeat' (first | (refine awpL_step TT rfl rfl rfl sd ?_) | (refine awpL_nil ?_) | (refine awpL_skip rfl rfl ?_) | (refine awpQ_step TT rfl rfl rfl rfl sd ?_) | (refine awpQ_nil ?_) | (refine awpQ_skip rfl rfl ?_) | (refine awp_seq ?_) | (refine awp_region ?_) | (refine awp_block ?_) | (refine awp_exit ?_) | (refine awp_skip ?_) | (refine awp_ret ?_) | (refine awp_cond_t rfl ?_) | (refine awp_cond_f rfl ?_) | (refine awp_quiet TM rfl (by kernel_rfl) ?_) | ((first | refine awpL_split rfl rfl rfl (fun hc => ?_) (fun hc => ?_) | refine awpQ_split rfl rfl rfl (fun hc => ?_) (fun hc => ?_) | refine awp_cond rfl (fun hc => ?_) (fun hc => ?_)) <;> ((try simp at hc) <;> try contradiction)))) <;> try (exfalso; omega))
        refine awp_loop hE (fun i : Nat => i ≤ ps.length) (fun i => ps.length - i)
          (fun i => [(0, vQ 1 ps.length c), (1, vI k), (6, vI (sumZ (fun y => rowN (loHi ps k y ps.length)) (-10 * k) q)), (7, vI (-10 * k + q)), (8, vI (loHi ps k (-10 * k + q) i).1), (9, vI (loHi ps k (-10 * k + q) i).2), (10, vI i)])
          (fun _ => [(1, .ro (.i2 ps))]) 2 [] 0 (Nat.zero_le _) ⟨(by repeat' (first | exact trivial | refine ⟨rfl, ?_⟩ | refine ⟨congrArg some (congrArg vI (by first | omega | (simp; done) | (simp; omega))), ?_⟩ | refine ⟨sl_eqA (by first | omega | (simp; done) | (simp; omega)), ?_⟩)), (by repeat' (first | exact trivial | refine ⟨rfl, ?_⟩)), rfl⟩ ?_
        intro i hi
        have lb := loHi_bd hb hk' (show -200 ≤ -10 * k + (q : Int) ∧ -10 * k + (q : Int) ≤ 200 by omega) hi
        by_cases hil : i < ps.length
        · have e1 : (ps.getD (0 + (i : Int).toNat) (0, 0)) = ptP ps i := by simp [ptP]
          have e2 := pt_next hil
          have ht := tm_bd hil
          obtain ⟨b1, b2, b3, b4, b5⟩ := sd_bd hb hil
          have o1 := pOk_true.1 b4
          have o2 := pOk_true.1 b5
          rw [← e1] at o1
          rw [← e2] at o2
          have dX : (ps.getD (0 + (((i : Int) + 1).tmod (ps.length : Int)).toNat) (0, 0)).2 - (ps.getD (0 + (i : Int).toNat) (0, 0)).2 = sdX ps i := by rw [e1, e2]; rfl
          have dY : (ps.getD (0 + (i : Int).toNat) (0, 0)).1 - (ps.getD (0 + (((i : Int) + 1).tmod (ps.length : Int)).toNat) (0, 0)).1 = sdY ps i := by rw [e1, e2]; rfl
          have m1 := mul_bd (A := 20) (B := 10) (a := (ps.getD (0 + (((i : Int) + 1).tmod (ps.length : Int)).toNat) (0, 0)).2 - (ps.getD (0 + (i : Int).toNat) (0, 0)).2) (b := (ps.getD (0 + (i : Int).toNat) (0, 0)).1) (by omega) (by omega) (by omega) (by omega)
          have m2 := mul_bd (A := 20) (B := 10) (a := (ps.getD (0 + (i : Int).toNat) (0, 0)).1 - (ps.getD (0 + (((i : Int) + 1).tmod (ps.length : Int)).toNat) (0, 0)).1) (b := (ps.getD (0 + (i : Int).toNat) (0, 0)).2) (by omega) (by omega) (by omega) (by omega)
          have m3 := mul_bd (A := 20) (B := 400) (a := k) (b := ((ps.getD (0 + (((i : Int) + 1).tmod (ps.length : Int)).toNat) (0, 0)).2 - (ps.getD (0 + (i : Int).toNat) (0, 0)).2) * (ps.getD (0 + (i : Int).toNat) (0, 0)).1 + ((ps.getD (0 + (i : Int).toNat) (0, 0)).1 - (ps.getD (0 + (((i : Int) + 1).tmod (ps.length : Int)).toNat) (0, 0)).1) * (ps.getD (0 + (i : Int).toNat) (0, 0)).2) (by omega) (by omega) (by omega) (by omega)
          have m4 := mul_bd (A := 20) (B := 200) (a := (ps.getD (0 + (i : Int).toNat) (0, 0)).1 - (ps.getD (0 + (((i : Int) + 1).tmod (ps.length : Int)).toNat) (0, 0)).1) (b := -10 * k + q) (by omega) (by omega) (by omega) (by omega)
          have hR : (k * (((ps.getD (0 + (((i : Int) + 1).tmod (ps.length : Int)).toNat) (0, 0)).2 - (ps.getD (0 + (i : Int).toNat) (0, 0)).2) * (ps.getD (0 + (i : Int).toNat) (0, 0)).1 + ((ps.getD (0 + (i : Int).toNat) (0, 0)).1 - (ps.getD (0 + (((i : Int) + 1).tmod (ps.length : Int)).toNat) (0, 0)).1) * (ps.getD (0 + (i : Int).toNat) (0, 0)).2) - ((ps.getD (0 + (i : Int).toNat) (0, 0)).1 - (ps.getD (0 + (((i : Int) + 1).tmod (ps.length : Int)).toNat) (0, 0)).1) * (-10 * k + q)) = k * sdB ps i - sdY ps i * (-10 * k + q) := by rw [dX, dY, e1]; rfl
          have hlo : loHi ps k (-10 * k + q) (i + 1) = if 0 < (ps.getD (0 + (((i : Int) + 1).tmod (ps.length : Int)).toNat) (0, 0)).2 - (ps.getD (0 + (i : Int).toNat) (0, 0)).2 then ((loHi ps k (-10 * k + q) i).1, min (loHi ps k (-10 * k + q) i).2 ((k * (((ps.getD (0 + (((i : Int) + 1).tmod (ps.length : Int)).toNat) (0, 0)).2 - (ps.getD (0 + (i : Int).toNat) (0, 0)).2) * (ps.getD (0 + (i : Int).toNat) (0, 0)).1 + ((ps.getD (0 + (i : Int).toNat) (0, 0)).1 - (ps.getD (0 + (((i : Int) + 1).tmod (ps.length : Int)).toNat) (0, 0)).1) * (ps.getD (0 + (i : Int).toNat) (0, 0)).2) - ((ps.getD (0 + (i : Int).toNat) (0, 0)).1 - (ps.getD (0 + (((i : Int) + 1).tmod (ps.length : Int)).toNat) (0, 0)).1) * (-10 * k + q)) / ((ps.getD (0 + (((i : Int) + 1).tmod (ps.length : Int)).toNat) (0, 0)).2 - (ps.getD (0 + (i : Int).toNat) (0, 0)).2))) else if (ps.getD (0 + (((i : Int) + 1).tmod (ps.length : Int)).toNat) (0, 0)).2 - (ps.getD (0 + (i : Int).toNat) (0, 0)).2 < 0 then (max (loHi ps k (-10 * k + q) i).1 (-((k * (((ps.getD (0 + (((i : Int) + 1).tmod (ps.length : Int)).toNat) (0, 0)).2 - (ps.getD (0 + (i : Int).toNat) (0, 0)).2) * (ps.getD (0 + (i : Int).toNat) (0, 0)).1 + ((ps.getD (0 + (i : Int).toNat) (0, 0)).1 - (ps.getD (0 + (((i : Int) + 1).tmod (ps.length : Int)).toNat) (0, 0)).1) * (ps.getD (0 + (i : Int).toNat) (0, 0)).2) - ((ps.getD (0 + (i : Int).toNat) (0, 0)).1 - (ps.getD (0 + (((i : Int) + 1).tmod (ps.length : Int)).toNat) (0, 0)).1) * (-10 * k + q)) / -((ps.getD (0 + (((i : Int) + 1).tmod (ps.length : Int)).toNat) (0, 0)).2 - (ps.getD (0 + (i : Int).toNat) (0, 0)).2))), (loHi ps k (-10 * k + q) i).2) else if (k * (((ps.getD (0 + (((i : Int) + 1).tmod (ps.length : Int)).toNat) (0, 0)).2 - (ps.getD (0 + (i : Int).toNat) (0, 0)).2) * (ps.getD (0 + (i : Int).toNat) (0, 0)).1 + ((ps.getD (0 + (i : Int).toNat) (0, 0)).1 - (ps.getD (0 + (((i : Int) + 1).tmod (ps.length : Int)).toNat) (0, 0)).1) * (ps.getD (0 + (i : Int).toNat) (0, 0)).2) - ((ps.getD (0 + (i : Int).toNat) (0, 0)).1 - (ps.getD (0 + (((i : Int) + 1).tmod (ps.length : Int)).toNat) (0, 0)).1) * (-10 * k + q)) < 0 then ((loHi ps k (-10 * k + q) i).1, (loHi ps k (-10 * k + q) i).1 - 1) else loHi ps k (-10 * k + q) i := by rw [hR, dX]; rfl
          have q1 := ediv_bd (M := 12000) (a := (k * (((ps.getD (0 + (((i : Int) + 1).tmod (ps.length : Int)).toNat) (0, 0)).2 - (ps.getD (0 + (i : Int).toNat) (0, 0)).2) * (ps.getD (0 + (i : Int).toNat) (0, 0)).1 + ((ps.getD (0 + (i : Int).toNat) (0, 0)).1 - (ps.getD (0 + (((i : Int) + 1).tmod (ps.length : Int)).toNat) (0, 0)).1) * (ps.getD (0 + (i : Int).toNat) (0, 0)).2) - ((ps.getD (0 + (i : Int).toNat) (0, 0)).1 - (ps.getD (0 + (((i : Int) + 1).tmod (ps.length : Int)).toNat) (0, 0)).1) * (-10 * k + q))) (b := (ps.getD (0 + (((i : Int) + 1).tmod (ps.length : Int)).toNat) (0, 0)).2 - (ps.getD (0 + (i : Int).toNat) (0, 0)).2) (by omega)
          have q2 := ediv_bd (M := 12000) (a := (k * (((ps.getD (0 + (((i : Int) + 1).tmod (ps.length : Int)).toNat) (0, 0)).2 - (ps.getD (0 + (i : Int).toNat) (0, 0)).2) * (ps.getD (0 + (i : Int).toNat) (0, 0)).1 + ((ps.getD (0 + (i : Int).toNat) (0, 0)).1 - (ps.getD (0 + (((i : Int) + 1).tmod (ps.length : Int)).toNat) (0, 0)).1) * (ps.getD (0 + (i : Int).toNat) (0, 0)).2) - ((ps.getD (0 + (i : Int).toNat) (0, 0)).1 - (ps.getD (0 + (((i : Int) + 1).tmod (ps.length : Int)).toNat) (0, 0)).1) * (-10 * k + q))) (b := -((ps.getD (0 + (((i : Int) + 1).tmod (ps.length : Int)).toNat) (0, 0)).2 - (ps.getD (0 + (i : Int).toNat) (0, 0)).2)) (by omega)
          have hP : ps[i]?.getD (0, 0) = (ps.getD (0 + (i : Int).toNat) (0, 0)) := by simp
          have hQ : ps[(((i : Int) + 1).tmod (ps.length : Int)).toNat]?.getD (0, 0) = (ps.getD (0 + (((i : Int) + 1).tmod (ps.length : Int)).toNat) (0, 0)) := by simp
          have hP2 : (ps[i]?.getD (0, 0)).2 = (ps.getD (0 + (i : Int).toNat) (0, 0)).2 := by rw [hP]
          have hQ2 : (ps[(((i : Int) + 1).tmod (ps.length : Int)).toNat]?.getD (0, 0)).2 = (ps.getD (0 + (((i : Int) + 1).tmod (ps.length : Int)).toNat) (0, 0)).2 := by rw [hQ]
          ((repeat' (first | (refine awpL_step TT rfl rfl rfl sd ?_) | (refine awpL_nil ?_) | (refine awpL_skip rfl rfl ?_) | (refine awpQ_step TT rfl rfl rfl rfl sd ?_) | (refine awpQ_nil ?_) | (refine awpQ_skip rfl rfl ?_) | (refine awp_seq ?_) | (refine awp_region ?_) | (first | refine awpL_ret (d_floorS _ _ (by omega) (by omega) (by omega)) rfl rfl rfl rfl rfl rfl rfl rfl ft rfl rfl ?_ | refine awpQ_ret (d_floorS _ _ (by omega) (by omega) (by omega)) rfl rfl rfl rfl rfl rfl rfl rfl ft rfl rfl ?_ | refine awpHop_ret _ (d_floorS _ _ (by omega) (by omega) (by omega)) rfl rfl rfl rfl rfl rfl rfl rfl rfl ft rfl rfl sb rfl ?_) | (refine awp_block ?_) | (refine awp_exit ?_) | (refine awp_skip ?_) | (refine awp_ret ?_) | (refine awp_cond_t rfl ?_) | (refine awp_cond_f rfl ?_) | (refine awp_quiet TM rfl (by kernel_rfl) ?_) | ((first | refine awpL_split rfl rfl rfl (fun hc => ?_) (fun hc => ?_) | refine awpQ_split rfl rfl rfl (fun hc => ?_) (fun hc => ?_) | refine awp_cond rfl (fun hc => ?_) (fun hc => ?_)) <;> ((try simp at hc) <;> try contradiction)))) <;> try (exfalso; omega))
          · have hn := hlo
            rw [if_pos (by omega)] at hn
            exact ⟨[], i + 1, hil, (by first | omega | (dsimp only; omega)), ⟨⟨rfl, rfl, rfl, rfl, congrArg some (congrArg vI (by rw [hn] <;> (first | rfl | (dsimp only; omega)))), congrArg some (congrArg vI (by rw [hn] <;> (first | rfl | (dsimp only; omega)))), rfl, trivial⟩, ⟨rfl, trivial⟩, rfl⟩⟩
          · have hn := hlo
            rw [if_neg (by omega), if_pos (by omega)] at hn
            exact ⟨[], i + 1, hil, (by first | omega | (dsimp only; omega)), ⟨⟨rfl, rfl, rfl, rfl, congrArg some (congrArg vI (by rw [hn] <;> (first | rfl | (dsimp only; omega)))), congrArg some (congrArg vI (by rw [hn] <;> (first | rfl | (dsimp only; omega)))), rfl, trivial⟩, ⟨rfl, trivial⟩, rfl⟩⟩
          · have hn := hlo
            rw [hP, hQ] at hc
            rw [if_neg (by omega), if_neg (by omega), if_pos (by omega)] at hn
            exact ⟨[], i + 1, hil, (by first | omega | (dsimp only; omega)), ⟨⟨rfl, rfl, rfl, rfl, congrArg some (congrArg vI (by rw [hn] <;> (first | rfl | (dsimp only; omega)))), congrArg some (congrArg vI (by rw [hn] <;> (first | rfl | (dsimp only; omega)))), rfl, trivial⟩, ⟨rfl, trivial⟩, rfl⟩⟩
          · have hn := hlo
            rw [hP, hQ] at hc
            rw [if_neg (by omega), if_neg (by omega), if_neg (by omega)] at hn
            exact ⟨[], i + 1, hil, (by first | omega | (dsimp only; omega)), ⟨⟨rfl, rfl, rfl, rfl, congrArg some (congrArg vI (by rw [hn] <;> (first | rfl | (dsimp only; omega)))), congrArg some (congrArg vI (by rw [hn] <;> (first | rfl | (dsimp only; omega)))), rfl, trivial⟩, ⟨rfl, trivial⟩, rfl⟩⟩
        · obtain rfl : i = ps.length := by omega
          have hr : max 0 ((loHi ps k (-10 * k + q) ps.length).2 - (loHi ps k (-10 * k + q) ps.length).1 + 1) = rowN (loHi ps k (-10 * k + q) ps.length) := rfl
          have rb := row_bd (ps := ps) (y := -10 * k + q) hk' hNk
          ((repeat' (first | (refine awpL_step TT rfl rfl rfl sd ?_) | (refine awpL_nil ?_) | (refine awpL_skip rfl rfl ?_) | (refine awpQ_step TT rfl rfl rfl rfl sd ?_) | (refine awpQ_nil ?_) | (refine awpQ_skip rfl rfl ?_) | (refine awp_seq ?_) | (refine awp_region ?_) | (refine awp_block ?_) | (refine awp_exit ?_) | (refine awp_skip ?_) | (refine awp_ret ?_) | (refine awp_cond_t rfl ?_) | (refine awp_cond_f rfl ?_) | (refine awp_quiet TM rfl (by kernel_rfl) ?_) | ((first | refine awpL_split rfl rfl rfl (fun hc => ?_) (fun hc => ?_) | refine awpQ_split rfl rfl rfl (fun hc => ?_) (fun hc => ?_) | refine awp_cond rfl (fun hc => ?_) (fun hc => ?_)) <;> ((try simp at hc) <;> try contradiction)))) <;> try (exfalso; omega))
          all_goals exact ⟨[], q + 1, hqN, (by first | omega | (dsimp only; omega)), ⟨⟨rfl, rfl, congrArg some (congrArg vI (by rw [sumZ, ← hr]; omega)), congrArg some (congrArg vI (by omega)), trivial⟩, ⟨rfl, trivial⟩, rfl⟩⟩
      · obtain rfl : q = N := by omega
        ((repeat' (first | (refine awpL_step TT rfl rfl rfl sd ?_) | (refine awpL_nil ?_) | (refine awpL_skip rfl rfl ?_) | (refine awpQ_step TT rfl rfl rfl rfl sd ?_) | (refine awpQ_nil ?_) | (refine awpQ_skip rfl rfl ?_) | (refine awp_seq ?_) | (refine awp_region ?_) | (refine awp_block ?_) | (refine awp_exit ?_) | (refine awp_skip ?_) | (refine awp_ret ?_) | (refine awp_cond_t rfl ?_) | (refine awp_cond_f rfl ?_) | (refine awp_quiet TM rfl (by kernel_rfl) ?_) | ((first | refine awpL_split rfl rfl rfl (fun hc => ?_) (fun hc => ?_) | refine awpQ_split rfl rfl rfl (fun hc => ?_) (fun hc => ?_) | refine awp_cond rfl (fun hc => ?_) (fun hc => ?_)) <;> ((try simp at hc) <;> try contradiction)))) <;> try (exfalso; omega))
        all_goals refine fin_ret rfl (by repeat' (first | exact trivial | exact Nat.zero_lt_one | omega | refine ⟨?_, ?_⟩)) (rfl) rfl
end Go.Proofs.Ytbgeooalhoaemaa
