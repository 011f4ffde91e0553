/-
  TEXTS OF THE PROOF, put together: bCone.
-/
import Derived.Test.YtfkbjkmlpinoeaaGreatM20
import Derived.Test.YtfkbjkmlpinoeaaGreatM26
set_option linter.unusedVariables false
set_option linter.unusedSimpArgs false
namespace Go.Proofs.YtfkbjkmlpinoeaaGreat
open Go.RowKit

def prodTo (xs : List Int) (o : Nat) (ys : List Int) : Nat → Int
  | 0 => 0
  | k + 1 => prodTo xs o ys k + xs.getD (o + k) 0 * ys.getD k 0
theorem prodTo_bd {xs ys : List Int} {o : Nat} (hx : xs.all numB = true) (hy : ys.all numB = true) : ∀ k : Nat, -(160000000000000000 * (k : Int)) ≤ prodTo xs o ys k ∧ prodTo xs o ys k ≤ 160000000000000000 * (k : Int)
  | 0 => by simp [prodTo]
  | k + 1 => by
    have h1 := prodTo_bd (o := o) hx hy k
    have h2 := prod_getD hx hy (o + k) k
    rw [prodTo]
    omega
theorem prod_idx {o k : Nat} : o + ((k : Nat) : Int).toNat = o + k := by simp
theorem d_dot (xs ys : List Int) (o n c m cb : Nat) (hm : m = ys.length) (hn : n = ys.length) (ho : o + n ≤ xs.length) (h24 : n ≤ 24) (hl : xs.length ≤ 1099511627776) (hx : xs.all numB = true) (hy : ys.all numB = true) :
    Does Tryz.prog 67 [vS 1 1 o n c, vS 2 1 0 m cb] [(1, .ro (.ints xs)), (2, .ro (.ints ys))] 3 (Ret (vI (prodTo xs o ys n)) 3) := by
  subst hm hn
  refine Does.intro TT Tryz.func67 rfl (by kernel_rfl) rfl rfl fun E hE => ?_
  ((repeat' (first | refine w_a TT rfl rfl rfl sd ?_ | refine w_b ?_ | refine w_c rfl rfl ?_ | refine w_d TT rfl rfl rfl rfl sd ?_ | refine w_e ?_ | refine w_f rfl rfl ?_ | refine w_g ?_ | refine w_h ?_ | refine w_i ?_ | refine w_j ?_ | refine w_k ?_ | refine w_l ?_ | refine w_m rfl ?_ | refine w_n rfl ?_ | refine w_o TM rfl kr ?_ | ((first | refine w_p rfl rfl rfl (fun hc => ?_) (fun hc => ?_) | refine w_q rfl rfl rfl (fun hc => ?_) (fun hc => ?_) | refine w_r rfl (fun hc => ?_) (fun hc => ?_)) <;> ((try simp at hc) <;> try contradiction)))) <;> try (exfalso; omega))
  refine w_G hE (fun k : Nat => k ≤ ys.length) (fun k => ys.length - k)
    (fun k => [(0, vS 1 1 o ys.length c), (1, vS 2 1 0 ys.length cb), (5, vI (prodTo xs o ys k)), (8, vI ys.length), (9, vI k)]) (fun _ => [(1, .ro (.ints xs)), (2, .ro (.ints ys))]) 3 [] 0 (Nat.zero_le _) ⟨w_1, w_2, rfl⟩ ?_
  intro k hk
  by_cases hkn : k < ys.length
  · have b1 := prodTo_bd (o := o) hx hy k
    have b2 := prod_getD hx hy (o + k) k
    have b3 : ys.getD (0 + (k : Int).toNat) 0 = ys.getD k 0 := by simp
    have b4 : xs.getD (o + (k : Int).toNat) 0 = xs.getD (o + k) 0 := by simp
    rw [← b3, ← b4] at b2
    ((repeat' (first | refine w_a TT rfl rfl rfl sd ?_ | refine w_b ?_ | refine w_c rfl rfl ?_ | refine w_d TT rfl rfl rfl rfl sd ?_ | refine w_e ?_ | refine w_f rfl rfl ?_ | refine w_g ?_ | refine w_h ?_ | refine w_i ?_ | refine w_j ?_ | refine w_k ?_ | refine w_l ?_ | refine w_m rfl ?_ | refine w_n rfl ?_ | refine w_o TM rfl kr ?_ | ((first | refine w_p rfl rfl rfl (fun hc => ?_) (fun hc => ?_) | refine w_q rfl rfl rfl (fun hc => ?_) (fun hc => ?_) | refine w_r rfl (fun hc => ?_) (fun hc => ?_)) <;> ((try simp at hc) <;> try contradiction)))) <;> try (exfalso; omega))
    exact ⟨[], k + 1, hkn, w_4, ⟨⟨rfl, rfl, congrArg some (congrArg vI (by rw [prodTo, b3, b4])), rfl, congrArg some (congrArg vI (by omega)), trivial⟩, ⟨rfl, rfl, trivial⟩, rfl⟩⟩
  · obtain rfl : k = ys.length := by omega
    ((repeat' (first | refine w_a TT rfl rfl rfl sd ?_ | refine w_b ?_ | refine w_c rfl rfl ?_ | refine w_d TT rfl rfl rfl rfl sd ?_ | refine w_e ?_ | refine w_f rfl rfl ?_ | refine w_g ?_ | refine w_h ?_ | refine w_i ?_ | refine w_j ?_ | refine w_k ?_ | refine w_l ?_ | refine w_m rfl ?_ | refine w_n rfl ?_ | refine w_o TM rfl kr ?_ | ((first | refine w_p rfl rfl rfl (fun hc => ?_) (fun hc => ?_) | refine w_q rfl rfl rfl (fun hc => ?_) (fun hc => ?_) | refine w_r rfl (fun hc => ?_) (fun hc => ?_)) <;> ((try simp at hc) <;> try contradiction)))) <;> try (exfalso; omega))
    refine fin_ret rfl w_3 (rfl) rfl
def dotR (xs : List Int) (c : Nat) (ys : List Int) (i : Nat) : Int := prodTo xs (i * c) ys c
def inConeB (r c : Int) (xs ys : List Int) : Bool := coneM r c xs && decide ((ys.length : Int) = c) && ys.all numB && decide (∀ i, i < r.toNat → 0 ≤ dotR xs c.toNat ys i)
def prodOkB (r c : Int) (xs ys : List Int) : Bool := coneM r c xs && decide ((ys.length : Int) = c) && ys.all numB
theorem all_next {P : Nat → Prop} {i : Nat} (h : ∀ p, p < i → P p) (hi : P i) : ∀ p, p < i + 1 → P p := fun p hp => by
  rcases Nat.lt_or_ge p i with c | c
  · exact h p c
  · obtain rfl : p = i := by omega
    exact hi
set_option maxRecDepth 100000 in
set_option maxHeartbeats 2000000 in
theorem d_inConeI (r c : Int) (xs ys : List Int) (ca cb : Nat) (hl : xs.length ≤ 1099511627776) (hl' : ys.length ≤ 1099511627776) (hca : xs.length ≤ ca) : Does Tryz.prog 16 [vM r c 1 xs.length ca, vS 2 1 0 ys.length cb] [(1, .ro (.ints xs)), (2, .ro (.ints ys))] 3 (Ret (vB (inConeB r c xs ys)) 3) := by
  refine Does.intro TT Tryz.func16 rfl (by kernel_rfl) rfl rfl fun E hE => ?_
  have hg : inConeB r c xs ys = (coneM r c xs && decide ((ys.length : Int) = c) && ys.all numB && decide (∀ i, i < r.toNat → 0 ≤ dotR xs c.toNat ys i)) := rfl
  cases h1 : coneM r c xs
  · have hs : inConeB r c xs ys = false := by simp [hg, h1]
    ((repeat' (first | refine w_a TT rfl rfl rfl sd ?_ | refine w_b ?_ | refine w_c rfl rfl ?_ | refine w_d TT rfl rfl rfl rfl sd ?_ | refine w_e ?_ | refine w_f rfl rfl ?_ | refine w_g ?_ | refine w_h ?_ | ((first | refine w_z (d_coneI _ _ _ _ hl) rfl rfl rfl rfl rfl rfl rfl rfl ft rfl rfl ?_ | refine w_A (d_coneI _ _ _ _ hl) rfl rfl rfl rfl rfl rfl rfl rfl ft rfl rfl ?_) <;> simp only [h1]) | refine w_i ?_ | refine w_j ?_ | refine w_k ?_ | refine w_l ?_ | refine w_m rfl ?_ | refine w_n rfl ?_ | refine w_o TM rfl kr ?_ | ((first | refine w_p rfl rfl rfl (fun hc => ?_) (fun hc => ?_) | refine w_q rfl rfl rfl (fun hc => ?_) (fun hc => ?_) | refine w_r rfl (fun hc => ?_) (fun hc => ?_)) <;> ((try simp at hc) <;> try contradiction)))) <;> try (exfalso; omega))
    all_goals refine fin_ret rfl w_3 (congrArg vB hs.symm) rfl
  · obtain ⟨a, b, rfl, rfl, ha, hb1, hb, hx, hnum⟩ := coneM_dims h1
    by_cases h2 : ys.length = b
    · cases h3 : ys.all numB
      · have hs : inConeB a b xs ys = false := by simp [hg, h3]
        have hd := d_areNumbers ys cb hl'
        rw [h3] at hd
        ((repeat' (first | refine w_a TT rfl rfl rfl sd ?_ | refine w_b ?_ | refine w_c rfl rfl ?_ | refine w_d TT rfl rfl rfl rfl sd ?_ | refine w_e ?_ | refine w_f rfl rfl ?_ | refine w_g ?_ | refine w_h ?_ | ((first | refine w_z (d_coneI _ _ _ _ hl) rfl rfl rfl rfl rfl rfl rfl rfl ft rfl rfl ?_ | refine w_A (d_coneI _ _ _ _ hl) rfl rfl rfl rfl rfl rfl rfl rfl ft rfl rfl ?_) <;> simp only [h1]) | (first | refine w_z (hd) rfl rfl rfl rfl rfl rfl rfl rfl ft rfl rfl ?_ | refine w_A (hd) rfl rfl rfl rfl rfl rfl rfl rfl ft rfl rfl ?_) | refine w_i ?_ | refine w_j ?_ | refine w_k ?_ | refine w_l ?_ | refine w_m rfl ?_ | refine w_n rfl ?_ | refine w_o TM rfl kr ?_ | ((first | refine w_p rfl rfl rfl (fun hc => ?_) (fun hc => ?_) | refine w_q rfl rfl rfl (fun hc => ?_) (fun hc => ?_) | refine w_r rfl (fun hc => ?_) (fun hc => ?_)) <;> ((try simp at hc) <;> try contradiction)))) <;> try (exfalso; omega))
        all_goals refine fin_ret rfl w_3 (congrArg vB hs.symm) rfl
      · have hd := d_areNumbers ys cb hl'
        rw [h3] at hd
        have hs : inConeB a b xs ys = decide (∀ i, i < a → 0 ≤ dotR xs b ys i) := by simp [hg, h1, h2, h3]
        rw [hs]
        ((repeat' (first | refine w_a TT rfl rfl rfl sd ?_ | refine w_b ?_ | refine w_c rfl rfl ?_ | refine w_d TT rfl rfl rfl rfl sd ?_ | refine w_e ?_ | refine w_f rfl rfl ?_ | refine w_g ?_ | refine w_h ?_ | ((first | refine w_z (d_coneI _ _ _ _ hl) rfl rfl rfl rfl rfl rfl rfl rfl ft rfl rfl ?_ | refine w_A (d_coneI _ _ _ _ hl) rfl rfl rfl rfl rfl rfl rfl rfl ft rfl rfl ?_) <;> simp only [h1]) | (first | refine w_z (hd) rfl rfl rfl rfl rfl rfl rfl rfl ft rfl rfl ?_ | refine w_A (hd) rfl rfl rfl rfl rfl rfl rfl rfl ft rfl rfl ?_) | refine w_i ?_ | refine w_j ?_ | refine w_k ?_ | refine w_l ?_ | refine w_m rfl ?_ | refine w_n rfl ?_ | refine w_o TM rfl kr ?_ | ((first | refine w_p rfl rfl rfl (fun hc => ?_) (fun hc => ?_) | refine w_q rfl rfl rfl (fun hc => ?_) (fun hc => ?_) | refine w_r rfl (fun hc => ?_) (fun hc => ?_)) <;> ((try simp at hc) <;> try contradiction)))) <;> try (exfalso; omega))
        refine w_G hE (fun i : Nat => i ≤ a ∧ ∀ p, p < i → 0 ≤ dotR xs b ys p) (fun i => a - i)
          (fun i => [(1, vS 2 1 0 ys.length cb), (2, .one (.ptr 3 3 0 0)), (5, vI i)]) (fun _ => [(1, .ro (.ints xs)), (2, .ro (.ints ys)), (3, .own 26 1 (.lit [.int a, .int b, .sl 1 1 0 xs.length ca]))]) 4 [] 0 ⟨Nat.zero_le _, fun p hp => by omega⟩ ⟨w_1, w_2, rfl⟩ ?_
        rintro i ⟨hi, hall⟩
        by_cases hia : i < a
        · have b2 := row_in (c := b) hia
          have hr := d_rowAt a b i xs.length ca xs rfl hx hca (by omega) (by omega) hia
          have hdd := fun cp => d_dot xs ys (i * b) b cp ys.length cb rfl h2.symm (by omega) (by omega) hl hnum h3
          ((repeat' (first | refine w_a TT rfl rfl rfl sd ?_ | refine w_b ?_ | refine w_c rfl rfl ?_ | refine w_d TT rfl rfl rfl rfl sd ?_ | refine w_e ?_ | refine w_f rfl rfl ?_ | refine w_g ?_ | refine w_h ?_ | ((refine w_E (hr) rfl rfl rfl rfl rfl rfl rfl ft rfl ?_); rintro v Hout n1 ⟨cpr, rfl, rfl, rfl⟩) | (first | refine w_z (hdd _) rfl rfl rfl rfl rfl rfl rfl rfl ft rfl rfl ?_ | refine w_A (hdd _) rfl rfl rfl rfl rfl rfl rfl rfl ft rfl rfl ?_) | refine w_i ?_ | refine w_j ?_ | refine w_k ?_ | refine w_l ?_ | refine w_m rfl ?_ | refine w_n rfl ?_ | refine w_o TM rfl kr ?_ | ((first | refine w_p rfl rfl rfl (fun hc => ?_) (fun hc => ?_) | refine w_q rfl rfl rfl (fun hc => ?_) (fun hc => ?_) | refine w_r rfl (fun hc => ?_) (fun hc => ?_)) <;> ((try simp at hc) <;> try contradiction)))) <;> try (exfalso; omega))
          · have hbad : 0 ≤ dotR xs b ys i → False := fun h => by unfold dotR at h; omega
            refine fin_ret rfl w_3 (congrArg vB (by symm; exact decide_eq_false fun h => hbad (h i hia))) rfl
          · exact ⟨[], i + 1, ⟨by omega, all_next hall (by unfold dotR; omega)⟩, w_4, ⟨w_1, w_2, rfl⟩⟩
        · obtain rfl : i = a := by omega
          ((repeat' (first | refine w_a TT rfl rfl rfl sd ?_ | refine w_b ?_ | refine w_c rfl rfl ?_ | refine w_d TT rfl rfl rfl rfl sd ?_ | refine w_e ?_ | refine w_f rfl rfl ?_ | refine w_g ?_ | refine w_h ?_ | refine w_i ?_ | refine w_j ?_ | refine w_k ?_ | refine w_l ?_ | refine w_m rfl ?_ | refine w_n rfl ?_ | refine w_o TM rfl kr ?_ | ((first | refine w_p rfl rfl rfl (fun hc => ?_) (fun hc => ?_) | refine w_q rfl rfl rfl (fun hc => ?_) (fun hc => ?_) | refine w_r rfl (fun hc => ?_) (fun hc => ?_)) <;> ((try simp at hc) <;> try contradiction)))) <;> try (exfalso; omega))
          refine fin_ret rfl w_3 (congrArg vB (by symm; rw [decide_eq_true_eq]; exact hall)) rfl
    · have h2' : ¬ ((ys.length : Int) = (b : Int)) := by omega
      have hs : inConeB a b xs ys = false := by rw [hg, decide_eq_false h2']; simp
      ((repeat' (first | refine w_a TT rfl rfl rfl sd ?_ | refine w_b ?_ | refine w_c rfl rfl ?_ | refine w_d TT rfl rfl rfl rfl sd ?_ | refine w_e ?_ | refine w_f rfl rfl ?_ | refine w_g ?_ | refine w_h ?_ | ((first | refine w_z (d_coneI _ _ _ _ hl) rfl rfl rfl rfl rfl rfl rfl rfl ft rfl rfl ?_ | refine w_A (d_coneI _ _ _ _ hl) rfl rfl rfl rfl rfl rfl rfl rfl ft rfl rfl ?_) <;> simp only [h1]) | refine w_i ?_ | refine w_j ?_ | refine w_k ?_ | refine w_l ?_ | refine w_m rfl ?_ | refine w_n rfl ?_ | refine w_o TM rfl kr ?_ | ((first | refine w_p rfl rfl rfl (fun hc => ?_) (fun hc => ?_) | refine w_q rfl rfl rfl (fun hc => ?_) (fun hc => ?_) | refine w_r rfl (fun hc => ?_) (fun hc => ?_)) <;> ((try simp at hc) <;> try contradiction)))) <;> try (exfalso; omega))
      all_goals refine fin_ret rfl w_3 (congrArg vB hs.symm) rfl
/-- the products while column j is added, rows below i done -/
def prT (xs : List Int) (r c : Nat) (ys : List Int) (j i : Nat) : List Int := (List.range r).map fun p => prodTo xs (p * c) ys (if p < i then j + 1 else j)
def prM (xs : List Int) (r c : Nat) (ys : List Int) : List Int := (List.range r).map fun p => dotR xs c ys p
theorem prT_len {xs : List Int} {r c : Nat} {ys : List Int} {j i : Nat} : (prT xs r c ys j i).length = r := by simp [prT]
theorem prM_len {xs : List Int} {r c : Nat} {ys : List Int} : (prM xs r c ys).length = r := by simp [prM]
theorem prT_zero {xs : List Int} {r c : Nat} {ys : List Int} : List.replicate r 0 = prT xs r c ys 0 0 := by
  apply List.ext_getElem (by simp [prT])
  intro p h1 h2
  simp [prT, prodTo]
theorem prT_at {xs : List Int} {r c : Nat} {ys : List Int} {j i : Nat} (hi : i < r) : (prT xs r c ys j i).getD i 0 = prodTo xs (i * c) ys j := by
  simp [prT, hi]
theorem prT_set {xs : List Int} {r c : Nat} {ys : List Int} {j i : Nat} (hi : i < r) : (prT xs r c ys j i).set i (prodTo xs (i * c) ys (j + 1)) = prT xs r c ys j (i + 1) := by
  apply List.ext_getElem (by simp [prT])
  intro p h1 h2
  rw [List.getElem_set]
  simp only [prT, List.getElem_map, List.getElem_range]
  by_cases cc : i = p
  · subst cc
    rw [if_pos rfl, if_pos (Nat.lt_succ_self i)]
  · rw [if_neg cc]
    by_cases c2 : p < i
    · rw [if_pos c2, if_pos (by omega)]
    · rw [if_neg c2, if_neg (by omega)]
theorem prT_next {xs : List Int} {r c : Nat} {ys : List Int} {j : Nat} : prT xs r c ys j r = prT xs r c ys (j + 1) 0 := by
  apply List.ext_getElem (by simp [prT])
  intro p h1 h2
  have : p < r := by rw [prT_len] at h1; exact h1
  simp [prT, this]
theorem prT_full {xs : List Int} {r c : Nat} {ys : List Int} : prT xs r c ys c 0 = prM xs r c ys := by
  apply List.ext_getElem (by simp [prT, prM])
  intro p h1 h2
  simp [prT, prM, dotR]
def ProdO (t : TypeId) (o : Option (List Int)) (v : AV) (Hout : List (Nat × Blk)) (n1 : Nat) : Prop := match o with
  | some zs => v = .tup [.one (.sl 3 1 0 zs.length zs.length), .one (.bool true)] ∧ Hout = [(3, .own t zs.length (.ints zs))] ∧ n1 = 4
  | none => v = .tup [.one (.sl 3 1 0 0 0), .one (.bool false)] ∧ Hout = [(3, .own t 0 (.ints []))] ∧ n1 = 4
theorem ProdO.some {t : TypeId} {zs : List Int} {n : Nat} (h : n = zs.length) : ProdO t (some zs) (.tup [.one (.sl 3 1 0 n n), .one (.bool true)]) [(3, .own t n (.ints zs))] 4 := by subst h; exact ⟨rfl, rfl, rfl⟩
def prodO (r c : Int) (xs ys : List Int) : Option (List Int) := if prodOkB r c xs ys then some (prM xs r.toNat c.toNat ys) else none
set_option maxHeartbeats 4000000 in
theorem d_prodS (r c : Int) (xs ys : List Int) (ca cb : Nat) (hl : xs.length ≤ 1099511627776) (hl' : ys.length ≤ 1099511627776) :
    Does Tryz.prog 104 [vM r c 1 xs.length ca, vS 2 1 0 ys.length cb] [(1, .ro (.ints xs)), (2, .ro (.ints ys))] 3 (ProdO 3 (prodO r c xs ys)) := by
  refine Does.intro TT Tryz.func104 rfl (by kernel_rfl) rfl rfl fun E hE => ?_
  cases h1 : coneM r c xs
  · have hs : prodO r c xs ys = none := by simp [prodO, prodOkB, h1]
    rw [hs]
    ((repeat' (first | refine w_a TT rfl rfl rfl sd ?_ | refine w_b ?_ | refine w_c rfl rfl ?_ | refine w_d TT rfl rfl rfl rfl sd ?_ | refine w_e ?_ | refine w_f rfl rfl ?_ | refine w_g ?_ | refine w_h ?_ | ((first | refine w_z (d_coneS _ _ _ _ hl) rfl rfl rfl rfl rfl rfl rfl rfl ft rfl rfl ?_ | refine w_A (d_coneS _ _ _ _ hl) rfl rfl rfl rfl rfl rfl rfl rfl ft rfl rfl ?_) <;> simp only [h1]) | refine w_i ?_ | refine w_j ?_ | refine w_k ?_ | refine w_l ?_ | refine w_m rfl ?_ | refine w_n rfl ?_ | refine w_o TM rfl kr ?_ | ((first | refine w_p rfl rfl rfl (fun hc => ?_) (fun hc => ?_) | refine w_q rfl rfl rfl (fun hc => ?_) (fun hc => ?_) | refine w_r rfl (fun hc => ?_) (fun hc => ?_)) <;> ((try simp at hc) <;> try contradiction)))) <;> try (exfalso; omega))
    exact fin rfl w_3 [(3, 4)] (.tup [.one (.sl 3 1 0 0 0), .one (.bool false)]) [(3, .own 3 0 (.ints []))] 4 (⟨rfl, rfl, rfl⟩) rfl ⟨trivial, ⟨rfl, trivial⟩, rfl⟩ rfl
  · obtain ⟨a, b, rfl, rfl, ha, hb1, hb, hx, hnum⟩ := coneM_dims h1
    by_cases h2 : ys.length = b
    · ((repeat' (first | refine w_a TT rfl rfl rfl sd ?_ | refine w_b ?_ | refine w_c rfl rfl ?_ | refine w_d TT rfl rfl rfl rfl sd ?_ | refine w_e ?_ | refine w_f rfl rfl ?_ | refine w_g ?_ | refine w_h ?_ | ((first | refine w_z (d_coneS _ _ _ _ hl) rfl rfl rfl rfl rfl rfl rfl rfl ft rfl rfl ?_ | refine w_A (d_coneS _ _ _ _ hl) rfl rfl rfl rfl rfl rfl rfl rfl ft rfl rfl ?_) <;> simp only [h1]) | refine w_i ?_ | refine w_j ?_ | refine w_k ?_ | refine w_l ?_ | refine w_m rfl ?_ | refine w_n rfl ?_ | refine w_o TM rfl kr ?_ | ((first | refine w_p rfl rfl rfl (fun hc => ?_) (fun hc => ?_) | refine w_q rfl rfl rfl (fun hc => ?_) (fun hc => ?_) | refine w_r rfl (fun hc => ?_) (fun hc => ?_)) <;> ((try simp at hc) <;> try contradiction)))) <;> try (exfalso; omega))
      refine w_G hE (fun j : Nat => j ≤ b ∧ (ys.take j).all numB = true) (fun j => b - j)
        (fun j => [(1, vS 2 1 0 ys.length cb), (2, .one (.ptr 3 3 0 0)), (6, vS 4 1 0 a a), (7, vI j)]) (fun j => [(1, .ro (.ints xs)), (2, .ro (.ints ys)), (3, .own 26 1 (.lit [.int a, .int b, .sl 1 1 0 xs.length ca])), (4, .own 3 a (.ints (prT xs a b ys j 0)))]) 5 [] 0 ⟨Nat.zero_le _, rfl⟩
        ⟨⟨rfl, rfl, rfl, rfl, trivial⟩, ⟨rfl, rfl, rfl, own_ints (by simpa using prT_zero), trivial⟩, rfl⟩ ?_
      rintro j ⟨hj, hall⟩
      by_cases hjb : j < b
      · have hjy : j < ys.length := by omega
        cases h4 : numB ys[j]
        · have hs : prodO a b xs ys = none := by
            have : ys.all numB = false := all_bad hjy h4
            simp [prodO, prodOkB, this]
          rw [hs]
          have hd := d_numS ys[j]
          rw [h4, ← getD_at hjy] at hd
          ((repeat' (first | refine w_a TT rfl rfl rfl sd ?_ | refine w_b ?_ | refine w_c rfl rfl ?_ | refine w_d TT rfl rfl rfl rfl sd ?_ | refine w_e ?_ | refine w_f rfl rfl ?_ | refine w_g ?_ | refine w_h ?_ | (first | refine w_z (hd) rfl rfl rfl rfl rfl rfl rfl rfl ft rfl rfl ?_ | refine w_A (hd) rfl rfl rfl rfl rfl rfl rfl rfl ft rfl rfl ?_) | refine w_i ?_ | refine w_j ?_ | refine w_k ?_ | refine w_l ?_ | refine w_m rfl ?_ | refine w_n rfl ?_ | refine w_o TM rfl kr ?_ | ((first | refine w_p rfl rfl rfl (fun hc => ?_) (fun hc => ?_) | refine w_q rfl rfl rfl (fun hc => ?_) (fun hc => ?_) | refine w_r rfl (fun hc => ?_) (fun hc => ?_)) <;> ((try simp at hc) <;> try contradiction)))) <;> try (exfalso; omega))
          exact fin rfl w_3 [(3, 5)] (.tup [.one (.sl 3 1 0 0 0), .one (.bool false)]) [(3, .own 3 0 (.ints []))] 4 (⟨rfl, rfl, rfl⟩) rfl ⟨trivial, ⟨rfl, trivial⟩, rfl⟩ rfl
        · have hall' := all_take hjy hall h4
          have hd := d_numS ys[j]
          rw [h4, ← getD_at hjy] at hd
          have hnb := numB_true.1 h4
          rw [← getD_at hjy] at hnb
          ((repeat' (first | refine w_a TT rfl rfl rfl sd ?_ | refine w_b ?_ | refine w_c rfl rfl ?_ | refine w_d TT rfl rfl rfl rfl sd ?_ | refine w_e ?_ | refine w_f rfl rfl ?_ | refine w_g ?_ | refine w_h ?_ | (first | refine w_z (hd) rfl rfl rfl rfl rfl rfl rfl rfl ft rfl rfl ?_ | refine w_A (hd) rfl rfl rfl rfl rfl rfl rfl rfl ft rfl rfl ?_) | refine w_i ?_ | refine w_j ?_ | refine w_k ?_ | refine w_l ?_ | refine w_m rfl ?_ | refine w_n rfl ?_ | refine w_o TM rfl kr ?_ | ((first | refine w_p rfl rfl rfl (fun hc => ?_) (fun hc => ?_) | refine w_q rfl rfl rfl (fun hc => ?_) (fun hc => ?_) | refine w_r rfl (fun hc => ?_) (fun hc => ?_)) <;> ((try simp at hc) <;> try contradiction)))) <;> try (exfalso; omega))
          refine w_G hE (fun i : Nat => i ≤ a) (fun i => a - i)
            (fun i => [(1, vS 2 1 0 ys.length cb), (2, .one (.ptr 3 3 0 0)), (6, vS 4 1 0 a a), (7, vI j), (8, vI i)]) (fun i => [(1, .ro (.ints xs)), (2, .ro (.ints ys)), (3, .own 26 1 (.lit [.int a, .int b, .sl 1 1 0 xs.length ca])), (4, .own 3 a (.ints (prT xs a b ys j i)))]) 5 [] 0 (Nat.zero_le _) ⟨w_1, w_2, rfl⟩ ?_
          intro i hi
          by_cases hia : i < a
          · have b1 := cell_facts hia hjb (show a ≤ 24 by omega) (show b ≤ 24 by omega)
            rw [← hx] at b1
            have hlp := prT_len (xs := xs) (r := a) (c := b) (ys := ys) (j := j) (i := i)
            have e1 : 0 + (i : Int).toNat = i := by simp
            have e2 : 0 + ((i : Int) * b + j).toNat = i * b + j := by
              have e : ((i : Int) * b + j) = ((i * b + j : Nat) : Int) := by simp
              rw [e]; omega
            have e3 : 0 + (j : Int).toNat = j := by simp
            have f1 := num_getD hnum (0 + ((i : Int) * b + j).toNat)
            have f2 := prod_num f1 hnb
            have hst : (prT xs a b ys j i).set (0 + (i : Int).toNat) ((prT xs a b ys j i).getD (0 + (i : Int).toNat) 0 + xs.getD (0 + ((i : Int) * b + j).toNat) 0 * ys.getD (0 + (j : Int).toNat) 0) = prT xs a b ys j (i + 1) := by
              rw [e1, prT_at hia, e2, e3, ← prT_set hia, prodTo]
            have f3 : -(160000000000000000 * (j : Int)) ≤ (prT xs a b ys j i).getD (0 + (i : Int).toNat) 0 ∧ (prT xs a b ys j i).getD (0 + (i : Int).toNat) 0 ≤ 160000000000000000 * (j : Int) := by
              rw [e1, prT_at hia]
              have hty : (ys.take j).all numB = true := hall
              clear f2 f1 hst
              have key : ∀ k, k ≤ j → -(160000000000000000 * (k : Int)) ≤ prodTo xs (i * b) ys k ∧ prodTo xs (i * b) ys k ≤ 160000000000000000 * (k : Int) := fun k => by
                induction k with
                | zero => intro _; simp [prodTo]
                | succ k ih =>
                  intro hk
                  have g1 := ih (by omega)
                  have g2 : -400000000 ≤ ys.getD k 0 ∧ ys.getD k 0 ≤ 400000000 := by
                    have := num_getD hty k
                    rw [List.getD_eq_getElem?_getD, List.getElem?_take_of_lt (by omega), ← List.getD_eq_getElem?_getD] at this
                    exact this
                  have g3 := prod_num (num_getD hnum (i * b + k)) g2
                  rw [prodTo]
                  omega
              exact key j (Nat.le_refl _)
            ((repeat' (first | refine w_a TT rfl rfl rfl sd ?_ | refine w_b ?_ | refine w_c rfl rfl ?_ | refine w_d TT rfl rfl rfl rfl sd ?_ | refine w_e ?_ | refine w_f rfl rfl ?_ | refine w_g ?_ | refine w_h ?_ | refine w_i ?_ | refine w_j ?_ | refine w_k ?_ | refine w_l ?_ | refine w_m rfl ?_ | refine w_n rfl ?_ | ((first | refine w_p rfl rfl rfl (fun hc => ?_) (fun hc => ?_) | refine w_q rfl rfl rfl (fun hc => ?_) (fun hc => ?_) | refine w_r rfl (fun hc => ?_) (fun hc => ?_)) <;> ((try simp at hc) <;> try contradiction)))) <;> try (exfalso; omega))
            refine awp_held TM [(1, _), (2, _), (3, _)] sb rfl (fun ρs => ?_)
            refine w_t TT 0 rfl kr kr kr nh rfl rfl rfl rfl sd ?_
            refine w_t TT 1 rfl kr kr kr nh rfl rfl rfl rfl sd ?_
            refine w_t TT 2 rfl kr kr kr nh rfl rfl rfl rfl sd ?_
            refine w_t TT 3 rfl kr kr kr nh rfl rfl rfl rfl sd ?_
            first | (refine w_t TT 4 rfl kr kr kr nh rfl rfl rfl rfl sd ?_) | (refine w_w TT 4 rfl kr kr kr nh rfl rfl rfl rfl rfl sd ?_)
            refine w_t TT 6 rfl kr kr kr nh rfl rfl rfl rfl sd ?_
            refine w_t TT 7 rfl kr kr kr nh rfl rfl rfl rfl sd ?_
            refine w_t TT 8 rfl kr kr kr nh rfl rfl rfl rfl sd ?_
            refine w_t TT 9 rfl kr kr kr nh rfl rfl rfl rfl sd ?_
            refine w_t TT 10 rfl kr kr kr nh rfl rfl rfl rfl sd ?_
            refine w_t TT 11 rfl kr kr kr nh rfl rfl rfl rfl sd ?_
            refine w_t TT 12 rfl kr kr kr nh rfl rfl rfl rfl sd ?_
            refine w_t TT 13 rfl kr kr kr nh rfl rfl rfl rfl sd ?_
            first | (refine w_t TT 14 rfl kr kr kr nh rfl rfl rfl rfl sd ?_) | (refine w_w TT 14 rfl kr kr kr nh rfl rfl rfl rfl rfl sd ?_)
            refine w_t TT 15 rfl kr kr kr nh rfl rfl rfl rfl sd ?_
            refine w_t TT 16 rfl kr kr kr nh rfl rfl rfl rfl sd ?_
            refine w_t TT 17 rfl kr kr kr nh rfl rfl rfl rfl sd ?_
            first | (refine w_t TT 18 rfl kr kr kr nh rfl rfl rfl rfl sd ?_) | (refine w_w TT 18 rfl kr kr kr nh rfl rfl rfl rfl rfl sd ?_)
            refine w_t TT 19 rfl kr kr kr nh rfl rfl rfl rfl sd ?_
            refine w_t TT 20 rfl kr kr kr nh rfl rfl rfl rfl sd ?_
            refine w_u [5] kr rfl ⟨?_, trivial⟩
            first | (refine w_s TT 5 rfl rfl rfl rfl sd sb rfl ?_)
            refine w_t TT 21 rfl kr kr kr nh rfl rfl rfl rfl sd ?_
            first | (refine w_t TT 22 rfl kr kr kr nh rfl rfl rfl rfl sd ?_) | (refine w_w TT 22 rfl kr kr kr nh rfl rfl rfl rfl rfl sd ?_)
            refine w_u [23] kr rfl ⟨?_, trivial⟩
            first | (refine w_s TT 23 rfl rfl rfl rfl sd sb rfl ?_)
            refine w_v kr ?_
            rotate_left
            all_goals ((repeat' (first | refine w_a TT rfl rfl rfl sd ?_ | refine w_b ?_ | refine w_c rfl rfl ?_ | refine w_d TT rfl rfl rfl rfl sd ?_ | refine w_e ?_ | refine w_f rfl rfl ?_ | refine w_g ?_ | refine w_h ?_ | refine w_i ?_ | refine w_j ?_ | refine w_k ?_ | refine w_l ?_ | refine w_m rfl ?_ | refine w_n rfl ?_ | refine w_o TM rfl kr ?_ | ((first | refine w_p rfl rfl rfl (fun hc => ?_) (fun hc => ?_) | refine w_q rfl rfl rfl (fun hc => ?_) (fun hc => ?_) | refine w_r rfl (fun hc => ?_) (fun hc => ?_)) <;> ((try simp at hc) <;> try contradiction)))) <;> try (exfalso; omega))
            all_goals exact ⟨[], i + 1, hia, w_4, ⟨w_1, ⟨rfl, rfl, rfl, own_ints hst, trivial⟩, rfl⟩⟩
          · obtain rfl : i = a := by omega
            ((repeat' (first | refine w_a TT rfl rfl rfl sd ?_ | refine w_b ?_ | refine w_c rfl rfl ?_ | refine w_d TT rfl rfl rfl rfl sd ?_ | refine w_e ?_ | refine w_f rfl rfl ?_ | refine w_g ?_ | refine w_h ?_ | refine w_i ?_ | refine w_j ?_ | refine w_k ?_ | refine w_l ?_ | refine w_m rfl ?_ | refine w_n rfl ?_ | refine w_o TM rfl kr ?_ | ((first | refine w_p rfl rfl rfl (fun hc => ?_) (fun hc => ?_) | refine w_q rfl rfl rfl (fun hc => ?_) (fun hc => ?_) | refine w_r rfl (fun hc => ?_) (fun hc => ?_)) <;> ((try simp at hc) <;> try contradiction)))) <;> try (exfalso; omega))
            exact ⟨[], j + 1, ⟨by omega, hall'⟩, w_4, ⟨w_1, ⟨rfl, rfl, rfl, own_ints prT_next, trivial⟩, rfl⟩⟩
      · obtain rfl : j = b := by omega
        have hs : prodO a j xs ys = some (prM xs a j ys) := by
          have : ys.all numB = true := by rw [← h2, List.take_length] at hall; exact hall
          simp [prodO, prodOkB, h1, h2, this]
        rw [hs]
        have hpl : a = (prM xs a j ys).length := prM_len.symm
        ((repeat' (first | refine w_a TT rfl rfl rfl sd ?_ | refine w_b ?_ | refine w_c rfl rfl ?_ | refine w_d TT rfl rfl rfl rfl sd ?_ | refine w_e ?_ | refine w_f rfl rfl ?_ | refine w_g ?_ | refine w_h ?_ | refine w_i ?_ | refine w_j ?_ | refine w_k ?_ | refine w_l ?_ | refine w_m rfl ?_ | refine w_n rfl ?_ | refine w_o TM rfl kr ?_ | ((first | refine w_p rfl rfl rfl (fun hc => ?_) (fun hc => ?_) | refine w_q rfl rfl rfl (fun hc => ?_) (fun hc => ?_) | refine w_r rfl (fun hc => ?_) (fun hc => ?_)) <;> ((try simp at hc) <;> try contradiction)))) <;> try (exfalso; omega))
        exact fin rfl w_3 [(3, 4)] (.tup [.one (.sl 3 1 0 a a), .one (.bool true)]) [(3, .own 3 a (.ints (prM xs a j ys)))] 4 (ProdO.some hpl) rfl ⟨trivial, ⟨own_ints prT_full, trivial⟩, rfl⟩ rfl
    · have h2' : ¬ ((ys.length : Int) = (b : Int)) := by omega
      have hs : prodO a b xs ys = none := by unfold prodO prodOkB; rw [decide_eq_false h2']; simp
      rw [hs]
      ((repeat' (first | refine w_a TT rfl rfl rfl sd ?_ | refine w_b ?_ | refine w_c rfl rfl ?_ | refine w_d TT rfl rfl rfl rfl sd ?_ | refine w_e ?_ | refine w_f rfl rfl ?_ | refine w_g ?_ | refine w_h ?_ | ((first | refine w_z (d_coneS _ _ _ _ hl) rfl rfl rfl rfl rfl rfl rfl rfl ft rfl rfl ?_ | refine w_A (d_coneS _ _ _ _ hl) rfl rfl rfl rfl rfl rfl rfl rfl ft rfl rfl ?_) <;> simp only [h1]) | refine w_i ?_ | refine w_j ?_ | refine w_k ?_ | refine w_l ?_ | refine w_m rfl ?_ | refine w_n rfl ?_ | refine w_o TM rfl kr ?_ | ((first | refine w_p rfl rfl rfl (fun hc => ?_) (fun hc => ?_) | refine w_q rfl rfl rfl (fun hc => ?_) (fun hc => ?_) | refine w_r rfl (fun hc => ?_) (fun hc => ?_)) <;> ((try simp at hc) <;> try contradiction)))) <;> try (exfalso; omega))
      exact fin rfl w_3 [(3, 4)] (.tup [.one (.sl 3 1 0 0 0), .one (.bool false)]) [(3, .own 3 0 (.ints []))] 4 (⟨rfl, rfl, rfl⟩) rfl ⟨trivial, ⟨rfl, trivial⟩, rfl⟩ rfl
set_option maxHeartbeats 2000000 in
theorem d_inConeS (r c : Int) (xs ys : List Int) (ca cb : Nat) (hl : xs.length ≤ 1099511627776) (hl' : ys.length ≤ 1099511627776) : Does Tryz.prog 62 [vM r c 1 xs.length ca, vS 2 1 0 ys.length cb] [(1, .ro (.ints xs)), (2, .ro (.ints ys))] 3 (Ret (vB (inConeB r c xs ys)) 3) := by
  refine Does.intro TT Tryz.func62 rfl (by kernel_rfl) rfl rfl fun E hE => ?_
  have hp := d_prodS r c xs ys ca cb hl hl'
  cases h1 : prodOkB r c xs ys
  · have ho : prodO r c xs ys = none := by simp [prodO, h1]
    have hs : inConeB r c xs ys = false := by
      have : inConeB r c xs ys = (prodOkB r c xs ys && decide (∀ i, i < r.toNat → 0 ≤ dotR xs c.toNat ys i)) := rfl
      rw [this, h1]; rfl
    rw [ho] at hp
    ((repeat' (first | refine w_a TT rfl rfl rfl sd ?_ | refine w_b ?_ | refine w_c rfl rfl ?_ | refine w_d TT rfl rfl rfl rfl sd ?_ | refine w_e ?_ | refine w_f rfl rfl ?_ | refine w_g ?_ | refine w_h ?_ | ((refine w_E (hp) rfl rfl rfl rfl rfl rfl rfl ft rfl ?_); rintro v Hout n1 ⟨rfl, rfl, rfl⟩) | refine w_i ?_ | refine w_j ?_ | refine w_k ?_ | refine w_l ?_ | refine w_m rfl ?_ | refine w_n rfl ?_ | refine w_o TM rfl kr ?_ | ((first | refine w_p rfl rfl rfl (fun hc => ?_) (fun hc => ?_) | refine w_q rfl rfl rfl (fun hc => ?_) (fun hc => ?_) | refine w_r rfl (fun hc => ?_) (fun hc => ?_)) <;> ((try simp at hc) <;> try contradiction)))) <;> try (exfalso; omega))
    refine w_G hE (fun _ : Nat => True) (fun k => k)
      (fun k => [(5, vS 4 1 0 0 0), (6, vB false), (7, vI 0)]) (fun _ => [(1, .ro (.ints xs)), (4, .own 3 0 (.ints []))]) 5 [] 0 trivial ⟨w_1, w_2, rfl⟩ ?_
    rintro k -
    ((repeat' (first | refine w_a TT rfl rfl rfl sd ?_ | refine w_b ?_ | refine w_c rfl rfl ?_ | refine w_d TT rfl rfl rfl rfl sd ?_ | refine w_e ?_ | refine w_f rfl rfl ?_ | refine w_g ?_ | refine w_h ?_ | refine w_i ?_ | refine w_j ?_ | refine w_k ?_ | refine w_l ?_ | refine w_m rfl ?_ | refine w_n rfl ?_ | refine w_o TM rfl kr ?_ | ((first | refine w_p rfl rfl rfl (fun hc => ?_) (fun hc => ?_) | refine w_q rfl rfl rfl (fun hc => ?_) (fun hc => ?_) | refine w_r rfl (fun hc => ?_) (fun hc => ?_)) <;> ((try simp at hc) <;> try contradiction)))) <;> try (exfalso; omega))
    refine fin_ret rfl w_3 (congrArg vB hs.symm) rfl
  · have ho : prodO r c xs ys = some (prM xs r.toNat c.toNat ys) := by simp [prodO, h1]
    have hs : inConeB r c xs ys = decide (∀ i, i < r.toNat → 0 ≤ dotR xs c.toNat ys i) := by
      have : inConeB r c xs ys = (prodOkB r c xs ys && decide (∀ i, i < r.toNat → 0 ≤ dotR xs c.toNat ys i)) := rfl
      rw [this, h1]; rfl
    rw [ho] at hp
    rw [hs]
    have hpl := prM_len (xs := xs) (r := r.toNat) (c := c.toNat) (ys := ys)
    have hra : r.toNat ≤ 24 := by
      simp only [prodOkB, Bool.and_eq_true] at h1
      obtain ⟨a, b, rfl, rfl, ha, _⟩ := coneM_dims h1.1.1
      omega
    have hat : ∀ i (h : i < r.toNat), (prM xs r.toNat c.toNat ys)[i]?.getD 0 = dotR xs c.toNat ys i := fun i h => by simp [prM, h]
    generalize prM xs r.toNat c.toNat ys = zs at *
    generalize r.toNat = a at *
    subst hpl
    ((repeat' (first | refine w_a TT rfl rfl rfl sd ?_ | refine w_b ?_ | refine w_c rfl rfl ?_ | refine w_d TT rfl rfl rfl rfl sd ?_ | refine w_e ?_ | refine w_f rfl rfl ?_ | refine w_g ?_ | refine w_h ?_ | ((refine w_E (hp) rfl rfl rfl rfl rfl rfl rfl ft rfl ?_); rintro v Hout n1 ⟨rfl, rfl, rfl⟩) | refine w_i ?_ | refine w_j ?_ | refine w_k ?_ | refine w_l ?_ | refine w_m rfl ?_ | refine w_n rfl ?_ | refine w_o TM rfl kr ?_ | ((first | refine w_p rfl rfl rfl (fun hc => ?_) (fun hc => ?_) | refine w_q rfl rfl rfl (fun hc => ?_) (fun hc => ?_) | refine w_r rfl (fun hc => ?_) (fun hc => ?_)) <;> ((try simp at hc) <;> try contradiction)))) <;> try (exfalso; omega))
    refine w_G hE (fun i : Nat => i ≤ zs.length ∧ ∀ p, p < i → 0 ≤ dotR xs c.toNat ys p) (fun i => zs.length - i)
      (fun i => [(5, vS 4 1 0 zs.length zs.length), (6, vB true), (7, vI i)]) (fun _ => [(1, .ro (.ints xs)), (4, .own 3 zs.length (.ints zs))]) 5 [] 0 ⟨Nat.zero_le _, fun p hp => by omega⟩ ⟨w_1, w_2, rfl⟩ ?_
    rintro i ⟨hi, hall⟩
    by_cases hia : i < zs.length
    · ((repeat' (first | refine w_a TT rfl rfl rfl sd ?_ | refine w_b ?_ | refine w_c rfl rfl ?_ | refine w_d TT rfl rfl rfl rfl sd ?_ | refine w_e ?_ | refine w_f rfl rfl ?_ | refine w_g ?_ | refine w_h ?_ | refine w_i ?_ | refine w_j ?_ | refine w_k ?_ | refine w_l ?_ | refine w_m rfl ?_ | refine w_n rfl ?_ | refine w_o TM rfl kr ?_ | ((first | refine w_p rfl rfl rfl (fun hc => ?_) (fun hc => ?_) | refine w_q rfl rfl rfl (fun hc => ?_) (fun hc => ?_) | refine w_r rfl (fun hc => ?_) (fun hc => ?_)) <;> ((try simp at hc) <;> try contradiction)))) <;> try (exfalso; omega))
      · rw [hat i hia] at hc
        refine fin_ret rfl w_3 (congrArg vB (by symm; exact decide_eq_false fun h => absurd (h i hia) (by omega))) rfl
      · rw [hat i hia] at hc
        exact ⟨[], i + 1, ⟨by omega, all_next hall hc⟩, w_4, ⟨w_1, w_2, rfl⟩⟩
    · obtain rfl : i = zs.length := by omega
      ((repeat' (first | refine w_a TT rfl rfl rfl sd ?_ | refine w_b ?_ | refine w_c rfl rfl ?_ | refine w_d TT rfl rfl rfl rfl sd ?_ | refine w_e ?_ | refine w_f rfl rfl ?_ | refine w_g ?_ | refine w_h ?_ | refine w_i ?_ | refine w_j ?_ | refine w_k ?_ | refine w_l ?_ | refine w_m rfl ?_ | refine w_n rfl ?_ | refine w_o TM rfl kr ?_ | ((first | refine w_p rfl rfl rfl (fun hc => ?_) (fun hc => ?_) | refine w_q rfl rfl rfl (fun hc => ?_) (fun hc => ?_) | refine w_r rfl (fun hc => ?_) (fun hc => ?_)) <;> ((try simp at hc) <;> try contradiction)))) <;> try (exfalso; omega))
      refine fin_ret rfl w_3 (congrArg vB (by symm; rw [decide_eq_true_eq]; exact hall)) rfl
end Go.Proofs.YtfkbjkmlpinoeaaGreat
