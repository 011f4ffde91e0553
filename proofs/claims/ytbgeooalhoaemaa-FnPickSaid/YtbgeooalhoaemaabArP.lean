/-
  CONTRACTS: the double area of a polygon, of both packages, and the points of its border, the program's.
-/
import Derived.Test.YtbgeooalhoaemaapPick5
import Derived.Test.YtbgeooalhoaemaabSides
set_option linter.unusedVariables false
set_option linter.unusedSimpArgs false
namespace Go.Proofs.Ytbgeooalhoaemaa
open Go.RowKit

theorem pok_all {ps : List (Int × Int)} (h : polyP ps = true) (i : Nat) : pOk (ptP ps i) = true := by
  rcases Nat.lt_or_ge i ps.length with c | c
  · exact (polyP_no h).2.1 i c
  · have : ptP ps i = (0, 0) := by unfold ptP; rw [List.getD_eq_getElem?_getD, List.getElem?_eq_none c]; rfl
    rw [this]; rfl
theorem arTo_bd {ps : List (Int × Int)} (h : polyP ps = true) : ∀ m : Nat, -(800 * (m : Int)) ≤ arTo ps m ∧ arTo ps m ≤ 800 * (m : Int)
  | 0 => by simp [arTo, sumN]
  | m + 1 => by
    have ih := arTo_bd h m
    have t := turnP_bd (pok_all h 0) (pok_all h (m + 1)) (pok_all h (m + 2))
    have e : arTo ps (m + 1) = arTo ps m + turnP (ptP ps 0) (ptP ps (m + 1)) (ptP ps (m + 2)) := rfl
    rw [e]
    unfold turnP
    omega
def arV (ps : List (Int × Int)) : AV := match polyP ps with
  | true => .tup [.one (.int (arTo ps (ps.length - 2))), .one (.bool true)]
  | false => .tup [.one (.int 0), .one (.bool false)]
set_option maxHeartbeats 4000000 in
theorem d_areaI (ps : List (Int × Int)) (c : Nat) (hl : ps.length ≤ 1099511627776) : Does Try.prog 30 [vQ 1 ps.length c] [(1, .ro (.i2 ps))] 2 (Ret (arV ps) 2) := by
  refine Does.intro TT Try.func30 rfl (by kernel_rfl) rfl rfl fun E hE => ?_
  have hp := d_polyI ps c hl
  unfold arV
  cases hb : polyP ps
  · rw [hb] at hp
    ((repeat' (first | (refine awpL_step TT rfl rfl rfl sd ?_) | (refine awpL_nil ?_) | (refine awpL_skip rfl rfl ?_) | (refine awpQ_step TT rfl rfl rfl rfl sd ?_) | (refine awpQ_nil ?_) | (refine awpQ_skip rfl rfl ?_) | (refine awp_seq ?_) | (refine awp_region ?_) | (first | refine awpL_ret (hp) rfl rfl rfl rfl rfl rfl rfl rfl ft rfl rfl ?_ | refine awpQ_ret (hp) rfl rfl rfl rfl rfl rfl rfl rfl ft rfl rfl ?_ | refine awpHop_ret _ (hp) rfl rfl rfl rfl rfl rfl rfl rfl rfl ft rfl rfl sb rfl ?_) | (refine awp_block ?_) | (refine awp_exit ?_) | (refine awp_skip ?_) | (refine awp_ret ?_) | (refine awp_cond_t rfl ?_) | (refine awp_cond_f rfl ?_) | (refine awp_quiet TM rfl (by kernel_rfl) ?_) | ((first | refine awpL_split rfl rfl rfl (fun hc => ?_) (fun hc => ?_) | refine awpQ_split rfl rfl rfl (fun hc => ?_) (fun hc => ?_) | refine awp_cond rfl (fun hc => ?_) (fun hc => ?_)) <;> ((try simp at hc) <;> try contradiction)))) <;> try (exfalso; omega))
    all_goals refine fin_ret rfl (by repeat' (first | exact trivial | exact Nat.zero_lt_one | omega | refine ⟨?_, ?_⟩)) (rfl) rfl
  · rw [hb] at hp
    have h8 := (polyP_no hb).1
    ((repeat' (first | (refine awpL_step TT rfl rfl rfl sd ?_) | (refine awpL_nil ?_) | (refine awpL_skip rfl rfl ?_) | (refine awpQ_step TT rfl rfl rfl rfl sd ?_) | (refine awpQ_nil ?_) | (refine awpQ_skip rfl rfl ?_) | (refine awp_seq ?_) | (refine awp_region ?_) | (first | refine awpL_ret (hp) rfl rfl rfl rfl rfl rfl rfl rfl ft rfl rfl ?_ | refine awpQ_ret (hp) rfl rfl rfl rfl rfl rfl rfl rfl ft rfl rfl ?_ | refine awpHop_ret _ (hp) rfl rfl rfl rfl rfl rfl rfl rfl rfl ft rfl rfl sb rfl ?_) | (refine awp_block ?_) | (refine awp_exit ?_) | (refine awp_skip ?_) | (refine awp_ret ?_) | (refine awp_cond_t rfl ?_) | (refine awp_cond_f rfl ?_) | (refine awp_quiet TM rfl (by kernel_rfl) ?_) | ((first | refine awpL_split rfl rfl rfl (fun hc => ?_) (fun hc => ?_) | refine awpQ_split rfl rfl rfl (fun hc => ?_) (fun hc => ?_) | refine awp_cond rfl (fun hc => ?_) (fun hc => ?_)) <;> ((try simp at hc) <;> try contradiction)))) <;> try (exfalso; omega))
    refine awp_loop hE (fun m : Nat => m + 2 ≤ ps.length) (fun m => ps.length - (m + 2))
      (fun m => [(0, vQ 1 ps.length c), (4, vI (arTo ps m)), (5, vI ((m + 2 : Nat) : Int))]) (fun _ => [(1, .ro (.i2 ps))]) 2 [] 0 (by omega) ⟨(by repeat' (first | exact trivial | refine ⟨rfl, ?_⟩ | refine ⟨congrArg some (congrArg vI (by first | omega | (simp; done) | (simp; omega))), ?_⟩ | refine ⟨sl_eqA (by first | omega | (simp; done) | (simp; omega)), ?_⟩)), (by repeat' (first | exact trivial | refine ⟨rfl, ?_⟩)), rfl⟩ ?_
    intro m hm
    have bd := arTo_bd hb m
    by_cases hgo : m + 2 < ps.length
    · have hkn : ¬ ((ps.length : Int) ≤ ((m + 2 : Nat) : Int)) := by omega
      have g0 : ps.getD (0 + (0 : Int).toNat) (0, 0) = ptP ps 0 := by simp [ptP]
      have g1 : ps.getD (0 + (((m + 2 : Nat) : Int) - 1).toNat) (0, 0) = ptP ps (m + 1) := by
        have : (((m + 2 : Nat) : Int) - 1).toNat = m + 1 := by omega
        rw [this]; simp [ptP]
      have g2 : ps.getD (0 + ((m + 2 : Nat) : Int).toNat) (0, 0) = ptP ps (m + 2) := by rw [Int.toNat_natCast]; simp [ptP]
      have ht := d_turnI (ps.getD (0 + (0 : Int).toNat) (0, 0)) (ps.getD (0 + (((m + 2 : Nat) : Int) - 1).toNat) (0, 0)) (ps.getD (0 + ((m + 2 : Nat) : Int).toNat) (0, 0)) (by rw [g0]; exact pok_all hb _) (by rw [g1]; exact pok_all hb _) (by rw [g2]; exact pok_all hb _)
      have hz : turnP (ps.getD (0 + (0 : Int).toNat) (0, 0)) (ps.getD (0 + (((m + 2 : Nat) : Int) - 1).toNat) (0, 0)) (ps.getD (0 + ((m + 2 : Nat) : Int).toNat) (0, 0)) = turnP (ptP ps 0) (ptP ps (m + 1)) (ptP ps (m + 2)) := by rw [g0, g1, g2]
      rw [hz] at ht
      have bd2 := arTo_bd hb (m + 1)
      have e : arTo ps (m + 1) = arTo ps m + turnP (ptP ps 0) (ptP ps (m + 1)) (ptP ps (m + 2)) := rfl
      rw [e] at bd2
      ((repeat' (first | (refine awpL_step TT rfl rfl rfl sd ?_) | (refine awpL_nil ?_) | (refine awpL_skip rfl rfl ?_) | (refine awpQ_step TT rfl rfl rfl rfl sd ?_) | (refine awpQ_nil ?_) | (refine awpQ_skip rfl rfl ?_) | (refine awp_seq ?_) | (refine awp_region ?_) | (first | refine awpL_ret (ht) rfl rfl rfl rfl rfl rfl rfl rfl ft rfl rfl ?_ | refine awpQ_ret (ht) rfl rfl rfl rfl rfl rfl rfl rfl ft rfl rfl ?_ | refine awpHop_ret _ (ht) rfl rfl rfl rfl rfl rfl rfl rfl rfl ft rfl rfl sb rfl ?_) | (refine awp_block ?_) | (refine awp_exit ?_) | (refine awp_skip ?_) | (refine awp_ret ?_) | (refine awp_cond_t rfl ?_) | (refine awp_cond_f rfl ?_) | (refine awp_quiet TM rfl (by kernel_rfl) ?_) | ((first | refine awpL_split rfl rfl rfl (fun hc => ?_) (fun hc => ?_) | refine awpQ_split rfl rfl rfl (fun hc => ?_) (fun hc => ?_) | refine awp_cond rfl (fun hc => ?_) (fun hc => ?_)) <;> ((try simp at hc) <;> try contradiction)))) <;> try (exfalso; omega))
      all_goals exact ⟨[], m + 1, by omega, (by first | omega | (dsimp only; omega)), ⟨⟨rfl, congrArg some (congrArg vI e.symm), congrArg some (congrArg vI (by omega)), trivial⟩, ⟨rfl, trivial⟩, rfl⟩⟩
    · have hm2 : m = ps.length - 2 := by omega
      have hme : ((m + 2 : Nat) : Int) = ps.length := by omega
      rw [hme, ← hm2]
      ((repeat' (first | (refine awpL_step TT rfl rfl rfl sd ?_) | (refine awpL_nil ?_) | (refine awpL_skip rfl rfl ?_) | (refine awpQ_step TT rfl rfl rfl rfl sd ?_) | (refine awpQ_nil ?_) | (refine awpQ_skip rfl rfl ?_) | (refine awp_seq ?_) | (refine awp_region ?_) | (refine awp_block ?_) | (refine awp_exit ?_) | (refine awp_skip ?_) | (refine awp_ret ?_) | (refine awp_cond_t rfl ?_) | (refine awp_cond_f rfl ?_) | (refine awp_quiet TM rfl (by kernel_rfl) ?_) | ((first | refine awpL_split rfl rfl rfl (fun hc => ?_) (fun hc => ?_) | refine awpQ_split rfl rfl rfl (fun hc => ?_) (fun hc => ?_) | refine awp_cond rfl (fun hc => ?_) (fun hc => ?_)) <;> ((try simp at hc) <;> try contradiction)))) <;> try (exfalso; omega))
      all_goals refine fin_ret rfl (by repeat' (first | exact trivial | exact Nat.zero_lt_one | omega | refine ⟨?_, ?_⟩)) (rfl) rfl
set_option maxHeartbeats 4000000 in
theorem d_areaS (ps : List (Int × Int)) (c : Nat) (hl : ps.length ≤ 1099511627776) : Does Try.prog 29 [vQ 1 ps.length c] [(1, .ro (.i2 ps))] 2 (Ret (arV ps) 2) := by
  refine Does.intro TT Try.func29 rfl (by kernel_rfl) rfl rfl fun E hE => ?_
  have hp := d_polyS ps c hl
  unfold arV
  cases hb : polyP ps
  · rw [hb] at hp
    ((repeat' (first | (refine awpL_step TT rfl rfl rfl sd ?_) | (refine awpL_nil ?_) | (refine awpL_skip rfl rfl ?_) | (refine awpQ_step TT rfl rfl rfl rfl sd ?_) | (refine awpQ_nil ?_) | (refine awpQ_skip rfl rfl ?_) | (refine awp_seq ?_) | (refine awp_region ?_) | (first | refine awpL_ret (hp) rfl rfl rfl rfl rfl rfl rfl rfl ft rfl rfl ?_ | refine awpQ_ret (hp) rfl rfl rfl rfl rfl rfl rfl rfl ft rfl rfl ?_ | refine awpHop_ret _ (hp) rfl rfl rfl rfl rfl rfl rfl rfl rfl ft rfl rfl sb rfl ?_) | (refine awp_block ?_) | (refine awp_exit ?_) | (refine awp_skip ?_) | (refine awp_ret ?_) | (refine awp_cond_t rfl ?_) | (refine awp_cond_f rfl ?_) | (refine awp_quiet TM rfl (by kernel_rfl) ?_) | ((first | refine awpL_split rfl rfl rfl (fun hc => ?_) (fun hc => ?_) | refine awpQ_split rfl rfl rfl (fun hc => ?_) (fun hc => ?_) | refine awp_cond rfl (fun hc => ?_) (fun hc => ?_)) <;> ((try simp at hc) <;> try contradiction)))) <;> try (exfalso; omega))
    all_goals refine fin_ret rfl (by repeat' (first | exact trivial | exact Nat.zero_lt_one | omega | refine ⟨?_, ?_⟩)) (rfl) rfl
  · rw [hb] at hp
    have h8 := (polyP_no hb).1
    ((repeat' (first | (refine awpL_step TT rfl rfl rfl sd ?_) | (refine awpL_nil ?_) | (refine awpL_skip rfl rfl ?_) | (refine awpQ_step TT rfl rfl rfl rfl sd ?_) | (refine awpQ_nil ?_) | (refine awpQ_skip rfl rfl ?_) | (refine awp_seq ?_) | (refine awp_region ?_) | (first | refine awpL_ret (hp) rfl rfl rfl rfl rfl rfl rfl rfl ft rfl rfl ?_ | refine awpQ_ret (hp) rfl rfl rfl rfl rfl rfl rfl rfl ft rfl rfl ?_ | refine awpHop_ret _ (hp) rfl rfl rfl rfl rfl rfl rfl rfl rfl ft rfl rfl sb rfl ?_) | (refine awp_block ?_) | (refine awp_exit ?_) | (refine awp_skip ?_) | (refine awp_ret ?_) | (refine awp_cond_t rfl ?_) | (refine awp_cond_f rfl ?_) | (refine awp_quiet TM rfl (by kernel_rfl) ?_) | ((first | refine awpL_split rfl rfl rfl (fun hc => ?_) (fun hc => ?_) | refine awpQ_split rfl rfl rfl (fun hc => ?_) (fun hc => ?_) | refine awp_cond rfl (fun hc => ?_) (fun hc => ?_)) <;> ((try simp at hc) <;> try contradiction)))) <;> try (exfalso; omega))
    refine awp_loop hE (fun m : Nat => m + 2 ≤ ps.length) (fun m => ps.length - (m + 2))
      (fun m => [(0, vQ 1 ps.length c), (4, vI (arTo ps m)), (5, vI ((m + 1 : Nat) : Int))]) (fun _ => [(1, .ro (.i2 ps))]) 2 [] 0 (by omega) ⟨(by repeat' (first | exact trivial | refine ⟨rfl, ?_⟩ | refine ⟨congrArg some (congrArg vI (by first | omega | (simp; done) | (simp; omega))), ?_⟩ | refine ⟨sl_eqA (by first | omega | (simp; done) | (simp; omega)), ?_⟩)), (by repeat' (first | exact trivial | refine ⟨rfl, ?_⟩)), rfl⟩ ?_
    intro m hm
    have bd := arTo_bd hb m
    by_cases hgo : m + 2 < ps.length
    · have hkn : ¬ ((ps.length : Int) ≤ ((m + 1 : Nat) : Int) + 1) := by omega
      have g0 : ps.getD (0 + (0 : Int).toNat) (0, 0) = ptP ps 0 := by simp [ptP]
      have g1 : ps.getD (0 + ((m + 1 : Nat) : Int).toNat) (0, 0) = ptP ps (m + 1) := by rw [Int.toNat_natCast]; simp [ptP]
      have g2 : ps.getD (0 + (((m + 1 : Nat) : Int) + 1).toNat) (0, 0) = ptP ps (m + 2) := by
        have : (((m + 1 : Nat) : Int) + 1).toNat = m + 2 := by omega
        rw [this]; simp [ptP]
      have ht := d_turnS (ps.getD (0 + (0 : Int).toNat) (0, 0)) (ps.getD (0 + ((m + 1 : Nat) : Int).toNat) (0, 0)) (ps.getD (0 + (((m + 1 : Nat) : Int) + 1).toNat) (0, 0)) (by rw [g0]; exact pok_all hb _) (by rw [g1]; exact pok_all hb _) (by rw [g2]; exact pok_all hb _)
      have hz : turnP (ps.getD (0 + (0 : Int).toNat) (0, 0)) (ps.getD (0 + ((m + 1 : Nat) : Int).toNat) (0, 0)) (ps.getD (0 + (((m + 1 : Nat) : Int) + 1).toNat) (0, 0)) = turnP (ptP ps 0) (ptP ps (m + 1)) (ptP ps (m + 2)) := by rw [g0, g1, g2]
      rw [hz] at ht
      have bd2 := arTo_bd hb (m + 1)
      have e : arTo ps (m + 1) = arTo ps m + turnP (ptP ps 0) (ptP ps (m + 1)) (ptP ps (m + 2)) := rfl
      rw [e] at bd2
      ((repeat' (first | (refine awpL_step TT rfl rfl rfl sd ?_) | (refine awpL_nil ?_) | (refine awpL_skip rfl rfl ?_) | (refine awpQ_step TT rfl rfl rfl rfl sd ?_) | (refine awpQ_nil ?_) | (refine awpQ_skip rfl rfl ?_) | (refine awp_seq ?_) | (refine awp_region ?_) | (first | refine awpL_ret (ht) rfl rfl rfl rfl rfl rfl rfl rfl ft rfl rfl ?_ | refine awpQ_ret (ht) rfl rfl rfl rfl rfl rfl rfl rfl ft rfl rfl ?_ | refine awpHop_ret _ (ht) rfl rfl rfl rfl rfl rfl rfl rfl rfl ft rfl rfl sb rfl ?_) | (refine awp_block ?_) | (refine awp_exit ?_) | (refine awp_skip ?_) | (refine awp_ret ?_) | (refine awp_cond_t rfl ?_) | (refine awp_cond_f rfl ?_) | (refine awp_quiet TM rfl (by kernel_rfl) ?_) | ((first | refine awpL_split rfl rfl rfl (fun hc => ?_) (fun hc => ?_) | refine awpQ_split rfl rfl rfl (fun hc => ?_) (fun hc => ?_) | refine awp_cond rfl (fun hc => ?_) (fun hc => ?_)) <;> ((try simp at hc) <;> try contradiction)))) <;> try (exfalso; omega))
      all_goals exact ⟨[], m + 1, by omega, (by first | omega | (dsimp only; omega)), ⟨⟨rfl, congrArg some (congrArg vI e.symm), congrArg some (congrArg vI (by omega)), trivial⟩, ⟨rfl, trivial⟩, rfl⟩⟩
    · have hm2 : m = ps.length - 2 := by omega
      have hme : ((m + 1 : Nat) : Int) = ps.length - 1 := by omega
      have hkn : ¬ ((ps.length : Int) - 1 + 1 < ps.length) := by omega
      rw [hme, ← hm2]
      ((repeat' (first | (refine awpL_step TT rfl rfl rfl sd ?_) | (refine awpL_nil ?_) | (refine awpL_skip rfl rfl ?_) | (refine awpQ_step TT rfl rfl rfl rfl sd ?_) | (refine awpQ_nil ?_) | (refine awpQ_skip rfl rfl ?_) | (refine awp_seq ?_) | (refine awp_region ?_) | (refine awp_block ?_) | (refine awp_exit ?_) | (refine awp_skip ?_) | (refine awp_ret ?_) | (refine awp_cond_t rfl ?_) | (refine awp_cond_f rfl ?_) | (refine awp_quiet TM rfl (by kernel_rfl) ?_) | ((first | refine awpL_split rfl rfl rfl (fun hc => ?_) (fun hc => ?_) | refine awpQ_split rfl rfl rfl (fun hc => ?_) (fun hc => ?_) | refine awp_cond rfl (fun hc => ?_) (fun hc => ?_)) <;> ((try simp at hc) <;> try contradiction)))) <;> try (exfalso; omega))
      all_goals refine fin_ret rfl (by repeat' (first | exact trivial | exact Nat.zero_lt_one | omega | refine ⟨?_, ?_⟩)) (rfl) rfl
theorem gcd_leP {a b : Int} (ha : a.natAbs ≤ 20) (hb : b.natAbs ≤ 20) : Int.gcd a b ≤ 20 := by
  show Nat.gcd a.natAbs b.natAbs ≤ 20
  rcases Nat.eq_zero_or_pos a.natAbs with c | c
  · rw [c, Nat.gcd_zero_left]; exact hb
  · exact Nat.le_trans (Nat.gcd_le_left _ c) ha
theorem boTo_bd {ps : List (Int × Int)} (h : polyP ps = true) : ∀ m : Nat, 0 ≤ boTo ps m ∧ boTo ps m ≤ 20 * (m : Int)
  | 0 => by simp [boTo, sumN]
  | m + 1 => by
    have ih := boTo_bd h m
    have o1 := pOk_true.1 (pok_all h m)
    have o2 := pOk_true.1 (pok_all h ((m + 1) % ps.length))
    have e : boTo ps (m + 1) = boTo ps m + (Int.gcd ((nxP ps m).1 - (ptP ps m).1) ((nxP ps m).2 - (ptP ps m).2) : Int) := rfl
    have hg := gcd_leP (a := (nxP ps m).1 - (ptP ps m).1) (b := (nxP ps m).2 - (ptP ps m).2) (by unfold nxP; omega) (by unfold nxP; omega)
    rw [e]
    omega
def boV (ps : List (Int × Int)) : AV := match polyP ps with
  | true => .tup [.one (.int (boTo ps ps.length)), .one (.bool true)]
  | false => .tup [.one (.int 0), .one (.bool false)]
set_option maxHeartbeats 4000000 in
theorem d_bordI (ps : List (Int × Int)) (c : Nat) (hl : ps.length ≤ 1099511627776) : Does Try.prog 34 [vQ 1 ps.length c] [(1, .ro (.i2 ps))] 2 (Ret (boV ps) 2) := by
  refine Does.intro TT Try.func34 rfl (by kernel_rfl) rfl rfl fun E hE => ?_
  have hp := d_polyI ps c hl
  unfold boV
  cases hb : polyP ps
  · rw [hb] at hp
    ((repeat' (first | (refine awpL_step TT rfl rfl rfl sd ?_) | (refine awpL_nil ?_) | (refine awpL_skip rfl rfl ?_) | (refine awpQ_step TT rfl rfl rfl rfl sd ?_) | (refine awpQ_nil ?_) | (refine awpQ_skip rfl rfl ?_) | (refine awp_seq ?_) | (refine awp_region ?_) | (first | refine awpL_ret (hp) rfl rfl rfl rfl rfl rfl rfl rfl ft rfl rfl ?_ | refine awpQ_ret (hp) rfl rfl rfl rfl rfl rfl rfl rfl ft rfl rfl ?_ | refine awpHop_ret _ (hp) rfl rfl rfl rfl rfl rfl rfl rfl rfl ft rfl rfl sb rfl ?_) | (refine awp_block ?_) | (refine awp_exit ?_) | (refine awp_skip ?_) | (refine awp_ret ?_) | (refine awp_cond_t rfl ?_) | (refine awp_cond_f rfl ?_) | (refine awp_quiet TM rfl (by kernel_rfl) ?_) | ((first | refine awpL_split rfl rfl rfl (fun hc => ?_) (fun hc => ?_) | refine awpQ_split rfl rfl rfl (fun hc => ?_) (fun hc => ?_) | refine awp_cond rfl (fun hc => ?_) (fun hc => ?_)) <;> ((try simp at hc) <;> try contradiction)))) <;> try (exfalso; omega))
    all_goals refine fin_ret rfl (by repeat' (first | exact trivial | exact Nat.zero_lt_one | omega | refine ⟨?_, ?_⟩)) (rfl) rfl
  · rw [hb] at hp
    have h8 := (polyP_no hb).1
    ((repeat' (first | (refine awpL_step TT rfl rfl rfl sd ?_) | (refine awpL_nil ?_) | (refine awpL_skip rfl rfl ?_) | (refine awpQ_step TT rfl rfl rfl rfl sd ?_) | (refine awpQ_nil ?_) | (refine awpQ_skip rfl rfl ?_) | (refine awp_seq ?_) | (refine awp_region ?_) | (first | refine awpL_ret (hp) rfl rfl rfl rfl rfl rfl rfl rfl ft rfl rfl ?_ | refine awpQ_ret (hp) rfl rfl rfl rfl rfl rfl rfl rfl ft rfl rfl ?_ | refine awpHop_ret _ (hp) rfl rfl rfl rfl rfl rfl rfl rfl rfl ft rfl rfl sb rfl ?_) | (refine awp_block ?_) | (refine awp_exit ?_) | (refine awp_skip ?_) | (refine awp_ret ?_) | (refine awp_cond_t rfl ?_) | (refine awp_cond_f rfl ?_) | (refine awp_quiet TM rfl (by kernel_rfl) ?_) | ((first | refine awpL_split rfl rfl rfl (fun hc => ?_) (fun hc => ?_) | refine awpQ_split rfl rfl rfl (fun hc => ?_) (fun hc => ?_) | refine awp_cond rfl (fun hc => ?_) (fun hc => ?_)) <;> ((try simp at hc) <;> try contradiction)))) <;> try (exfalso; omega))
    refine awp_loop hE (fun i : Nat => i ≤ ps.length) (fun i => ps.length - i)
      (fun i => [(0, vQ 1 ps.length c), (4, vI (boTo ps i)), (11, vI ps.length), (12, vI i)]) (fun _ => [(1, .ro (.i2 ps))]) 2 [] 0 (Nat.zero_le _) ⟨(by repeat' (first | exact trivial | refine ⟨rfl, ?_⟩ | refine ⟨congrArg some (congrArg vI (by first | omega | (simp; done) | (simp; omega))), ?_⟩ | refine ⟨sl_eqA (by first | omega | (simp; done) | (simp; omega)), ?_⟩)), (by repeat' (first | exact trivial | refine ⟨rfl, ?_⟩)), rfl⟩ ?_
    intro i hi
    have bd := boTo_bd hb i
    by_cases hgo : i < ps.length
    · have hkn : ¬ (ps.length ≤ i) := by omega
      have e1 : ps.getD (0 + (i : Int).toNat) (0, 0) = ptP ps i := by simp [ptP]
      have e2 := pt_next hgo
      have ht := tm_bd hgo
      have o1 := pOk_true.1 (pok_all hb i)
      have o2 := pOk_true.1 (pok_all hb ((i + 1) % ps.length))
      have o3 : -10 ≤ (nxP ps i).1 ∧ (nxP ps i).1 ≤ 10 ∧ -10 ≤ (nxP ps i).2 ∧ (nxP ps i).2 ≤ 10 := o2
      have hg := d_gcd ((nxP ps i).1 - (ptP ps i).1) ((nxP ps i).2 - (ptP ps i).2) ⟨by omega, by omega⟩ ⟨by omega, by omega⟩
      rw [← e1] at o1
      rw [← e2] at o3
      have bd2 := boTo_bd hb (i + 1)
      have e : boTo ps (i + 1) = boTo ps i + (Int.gcd ((nxP ps i).1 - (ptP ps i).1) ((nxP ps i).2 - (ptP ps i).2) : Int) := rfl
      rw [e] at bd2
      have hgl := gcd_leP (a := (nxP ps i).1 - (ptP ps i).1) (b := (nxP ps i).2 - (ptP ps i).2) (by rw [← e1, ← e2]; omega) (by rw [← e1, ← e2]; omega)
      rw [← e1, ← e2] at hg e bd2
      ((repeat' (first | (refine awpL_step TT rfl rfl rfl sd ?_) | (refine awpL_nil ?_) | (refine awpL_skip rfl rfl ?_) | (refine awpQ_step TT rfl rfl rfl rfl sd ?_) | (refine awpQ_nil ?_) | (refine awpQ_skip rfl rfl ?_) | (refine awp_seq ?_) | (refine awp_region ?_) | (first | refine awpL_ret (hg) rfl rfl rfl rfl rfl rfl rfl rfl ft rfl rfl ?_ | refine awpQ_ret (hg) rfl rfl rfl rfl rfl rfl rfl rfl ft rfl rfl ?_ | refine awpHop_ret _ (hg) rfl rfl rfl rfl rfl rfl rfl rfl rfl ft rfl rfl sb rfl ?_) | (refine awp_block ?_) | (refine awp_exit ?_) | (refine awp_skip ?_) | (refine awp_ret ?_) | (refine awp_cond_t rfl ?_) | (refine awp_cond_f rfl ?_) | (refine awp_quiet TM rfl (by kernel_rfl) ?_) | ((first | refine awpL_split rfl rfl rfl (fun hc => ?_) (fun hc => ?_) | refine awpQ_split rfl rfl rfl (fun hc => ?_) (fun hc => ?_) | refine awp_cond rfl (fun hc => ?_) (fun hc => ?_)) <;> ((try simp at hc) <;> try contradiction)))) <;> try (exfalso; omega))
      all_goals exact ⟨[], i + 1, by omega, (by first | omega | (dsimp only; omega)), ⟨⟨rfl, congrArg some (congrArg vI e.symm), rfl, congrArg some (congrArg vI (by omega)), trivial⟩, ⟨rfl, trivial⟩, rfl⟩⟩
    · obtain rfl : i = ps.length := by omega
      ((repeat' (first | (refine awpL_step TT rfl rfl rfl sd ?_) | (refine awpL_nil ?_) | (refine awpL_skip rfl rfl ?_) | (refine awpQ_step TT rfl rfl rfl rfl sd ?_) | (refine awpQ_nil ?_) | (refine awpQ_skip rfl rfl ?_) | (refine awp_seq ?_) | (refine awp_region ?_) | (refine awp_block ?_) | (refine awp_exit ?_) | (refine awp_skip ?_) | (refine awp_ret ?_) | (refine awp_cond_t rfl ?_) | (refine awp_cond_f rfl ?_) | (refine awp_quiet TM rfl (by kernel_rfl) ?_) | ((first | refine awpL_split rfl rfl rfl (fun hc => ?_) (fun hc => ?_) | refine awpQ_split rfl rfl rfl (fun hc => ?_) (fun hc => ?_) | refine awp_cond rfl (fun hc => ?_) (fun hc => ?_)) <;> ((try simp at hc) <;> try contradiction)))) <;> try (exfalso; omega))
      all_goals refine fin_ret rfl (by repeat' (first | exact trivial | exact Nat.zero_lt_one | omega | refine ⟨?_, ?_⟩)) (rfl) rfl
end Go.Proofs.Ytbgeooalhoaemaa
