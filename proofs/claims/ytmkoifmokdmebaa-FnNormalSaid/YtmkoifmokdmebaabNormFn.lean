/-
  THE LAW FnNormal, walked: normal forms, their sums and differences.
-/
import Derived.Test.YtmkoifmokdmebaapNorm3
import Derived.Test.YtmkoifmokdmebaabZero
import Derived.Test.YtmkoifmokdmebaabSame
import Derived.Test.YtmkoifmokdmebaabDrawM
set_option linter.unusedVariables false
set_option linter.unusedSimpArgs false
namespace Go.Proofs.Ytmkoifmokdmebaa
open Go.RowKit

theorem addIn_form2 {r c : Int} {xs vs ws : List Int} : ∃ (zs : List Int) (ok : Bool), zs.length ≤ 24 ∧ (ok = (addInO r c xs vs ws).isSome ∧ zs = (addInO r c xs vs ws).getD []) ∧ ∀ t k, NormR t (addInO r c xs vs ws) k = NormV t zs ok k := by
  unfold addInO
  split
  · exact ⟨[], false, Nat.zero_le _, ⟨rfl, rfl⟩, fun _ _ => rfl⟩
  · exact norm_form
theorem opt_some {α : Type} {o : Option α} {ok : Bool} {z d : α} (h1 : ok = o.isSome) (h2 : z = o.getD d) (h : ok = true) : o = some z := by
  subst h1 h2
  cases o
  · cases h
  · rfl
def subTo (vs ws : List Int) : Nat → List Int
  | 0 => []
  | k + 1 => subTo vs ws k ++ [vs.getD k 0 - ws.getD k 0]
theorem subTo_len {vs ws : List Int} : ∀ {k : Nat}, (subTo vs ws k).length = k
  | 0 => rfl
  | k + 1 => by simp [subTo, subTo_len]
theorem subTo_at {vs ws : List Int} {i : Nat} : ∀ {k : Nat}, i < k → (subTo vs ws k).getD i 0 = vs.getD i 0 - ws.getD i 0
  | 0, h => by omega
  | k + 1, h => by
    have hl := subTo_len (vs := vs) (ws := ws) (k := k)
    simp only [subTo, List.getD_eq_getElem?_getD]
    rcases Nat.lt_or_ge i k with e | e
    · have := subTo_at (vs := vs) (ws := ws) e
      simp only [List.getD_eq_getElem?_getD] at this
      rw [List.getElem?_append_left (by omega)]
      exact this
    · obtain rfl : i = k := by omega
      rw [List.getElem?_append_right (by omega), hl]
      simp
set_option maxRecDepth 100000 in
set_option maxHeartbeats 16000000 in
theorem d_fnNormal (code : List Int) (c : Nat) : Does Try.prog 10 [vS 1 1 0 code.length c] [(1, .ro (.bytes code))] 2 (Ret (vB true) 2) := by
  refine Does.intro TT Try.func10 rfl (by kernel_rfl) rfl rfl fun E hE => ?_
  by_cases hb : (1048576 : Int) < code.length
  · ((repeat' (first | (refine awpL_step TT rfl rfl rfl sd ?_) | (refine awpL_nil ?_) | (refine awpL_skip rfl rfl ?_) | (refine awpQ_step TT rfl rfl rfl rfl sd ?_) | (refine awpQ_nil ?_) | (refine awpQ_skip rfl rfl ?_) | (refine awp_seq ?_) | (refine awp_region ?_) | ((first | refine awpL_ret (d_big _ _) rfl rfl rfl rfl rfl rfl rfl rfl ft rfl rfl ?_ | refine awpQ_ret (d_big _ _) rfl rfl rfl rfl rfl rfl rfl rfl ft rfl rfl ?_ | refine awpHop_ret _ (d_big _ _) rfl rfl rfl rfl rfl rfl rfl rfl rfl ft rfl rfl sb rfl ?_) <;> simp only [hb]) | (refine awp_block ?_) | (refine awp_exit ?_) | (refine awp_skip ?_) | (refine awp_ret ?_) | (refine awp_cond_t rfl ?_) | (refine awp_cond_f rfl ?_) | (refine awp_quiet TM rfl (by kernel_rfl) ?_) | ((first | refine awpL_split rfl rfl rfl (fun hc => ?_) (fun hc => ?_) | refine awpQ_split rfl rfl rfl (fun hc => ?_) (fun hc => ?_) | refine awp_cond rfl (fun hc => ?_) (fun hc => ?_)) <;> ((try simp at hc) <;> try contradiction)))) <;> try (exfalso; omega))
    all_goals refine fin_ret rfl (by repeat' (first | exact trivial | exact Nat.zero_lt_one | omega | refine ⟨?_, ?_⟩)) (rfl) rfl
  · have hl : code.length ≤ 1048576 := by omega
    ((repeat' (first | (refine awpL_step TT rfl rfl rfl sd ?_) | (refine awpL_nil ?_) | (refine awpL_skip rfl rfl ?_) | (refine awpQ_step TT rfl rfl rfl rfl sd ?_) | (refine awpQ_nil ?_) | (refine awpQ_skip rfl rfl ?_) | (refine awp_seq ?_) | (refine awp_region ?_) | ((first | refine awpL_ret (d_big _ _) rfl rfl rfl rfl rfl rfl rfl rfl ft rfl rfl ?_ | refine awpQ_ret (d_big _ _) rfl rfl rfl rfl rfl rfl rfl rfl ft rfl rfl ?_ | refine awpHop_ret _ (d_big _ _) rfl rfl rfl rfl rfl rfl rfl rfl rfl ft rfl rfl sb rfl ?_) <;> simp only [hb]) | ((refine awpL_call (d_drawAdd code c hl) rfl rfl rfl rfl rfl rfl rfl ft rfl ?_)) | (refine awp_block ?_) | (refine awp_exit ?_) | (refine awp_skip ?_) | (refine awp_ret ?_) | (refine awp_cond_t rfl ?_) | (refine awp_cond_f rfl ?_) | ((first | refine awpL_split rfl rfl rfl (fun hc => ?_) (fun hc => ?_) | refine awpQ_split rfl rfl rfl (fun hc => ?_) (fun hc => ?_) | refine awp_cond rfl (fun hc => ?_) (fun hc => ?_)) <;> ((try simp at hc) <;> try contradiction)))) <;> try (exfalso; omega))
    rintro v Hout n1 ⟨kc, r, zs, bs, cs, cap1, cap2, cap3, hk, hzl, hbl, hcl, hzc, hbc, hcc, hbb, hcb, rfl, rfl, rfl⟩
    obtain ⟨x, one, hxl, ⟨hx1, hx2⟩, hX⟩ := norm_form (r := r) (c := kc) (xs := zs) (vs := bs)
    obtain ⟨y, two, hyl, ⟨hy1, hy2⟩, hY⟩ := norm_form (r := r) (c := kc) (xs := zs) (vs := cs)
    obtain ⟨s, three, hsl, ⟨hs1, hs2⟩, hS⟩ := addIn_form2 (r := r) (c := kc) (xs := zs) (vs := bs) (ws := cs)
    obtain ⟨t, four, htl, ⟨ht1, ht2⟩, hT⟩ := addIn_form2 (r := r) (c := kc) (xs := zs) (vs := x) (ws := y)
    have n1 := fun ca cv => d_normI r kc zs bs ca cv (by omega) (by omega)
    have n2 := fun ca cv => d_normS r kc zs bs ca cv (by omega) (by omega)
    have n3 := fun ca cv => d_normI r kc zs cs ca cv (by omega) (by omega)
    have n4 := fun ca cv cw => d_addInI r kc zs bs cs ca cv cw (by omega) (by omega) (by omega)
    have n5 := fun ca cv cw => d_addInI r kc zs x y ca cv cw (by omega) (by omega) (by omega)
    rw [hX] at n1 n2
    rw [hY] at n3
    rw [hS] at n4
    rw [hT] at n5
    cases one
    · have hx0 : x = [] := by
        rw [hx2]
        cases h : normO r kc zs bs
        · rfl
        · rw [h] at hx1; cases hx1
      subst hx0
      ((repeat' (first | (refine awpL_step TT rfl rfl rfl sd ?_) | (refine awpL_nil ?_) | (refine awpL_skip rfl rfl ?_) | (refine awpQ_step TT rfl rfl rfl rfl sd ?_) | (refine awpQ_nil ?_) | (refine awpQ_skip rfl rfl ?_) | (refine awp_seq ?_) | (refine awp_region ?_) | ((first | refine awpL_one (n1 _ _) rfl rfl rfl rfl rfl rfl rfl ft rfl rfl (NormV.out) ?_ | refine awpHop_one _ (n1 _ _) rfl rfl rfl rfl rfl rfl rfl rfl ft rfl rfl (NormV.out) sb rfl rfl ?_); rintro v b ⟨c6, hc6, rfl, he, -⟩; cases he) | ((first | refine awpL_one (n2 _ _) rfl rfl rfl rfl rfl rfl rfl ft rfl rfl (NormV.out) ?_ | refine awpHop_one _ (n2 _ _) rfl rfl rfl rfl rfl rfl rfl rfl ft rfl rfl (NormV.out) sb rfl rfl ?_); rintro v b ⟨c7, hc7, rfl, he, -⟩; cases he) | ((first | refine awpL_one (n3 _ _) rfl rfl rfl rfl rfl rfl rfl ft rfl rfl (NormV.out) ?_ | refine awpHop_one _ (n3 _ _) rfl rfl rfl rfl rfl rfl rfl rfl ft rfl rfl (NormV.out) sb rfl rfl ?_); rintro v b ⟨c8, hc8, rfl, he, -⟩; cases he) | ((first | refine awpL_one (n4 _ _ _) rfl rfl rfl rfl rfl rfl rfl ft rfl rfl (NormV.out) ?_ | refine awpHop_one _ (n4 _ _ _) rfl rfl rfl rfl rfl rfl rfl rfl ft rfl rfl (NormV.out) sb rfl rfl ?_); rintro v b ⟨c9, hc9, rfl, he, -⟩; cases he) | ((first | refine awpL_one (n5 _ _ _) rfl rfl rfl rfl rfl rfl rfl ft rfl rfl (NormV.out) ?_ | refine awpHop_one _ (n5 _ _ _) rfl rfl rfl rfl rfl rfl rfl rfl ft rfl rfl (NormV.out) sb rfl rfl ?_); rintro v b ⟨c10, hc10, rfl, he, -⟩; cases he) | (refine awp_block ?_) | (refine awp_exit ?_) | (refine awp_skip ?_) | (refine awp_ret ?_) | (refine awp_cond_t rfl ?_) | (refine awp_cond_f rfl ?_) | (refine awp_quiet TM rfl (by kernel_rfl) ?_) | ((first | refine awpL_split rfl rfl rfl (fun hc => ?_) (fun hc => ?_) | refine awpQ_split rfl rfl rfl (fun hc => ?_) (fun hc => ?_) | refine awp_cond rfl (fun hc => ?_) (fun hc => ?_)) <;> ((try simp at hc) <;> try contradiction)))) <;> try (exfalso; omega))
      all_goals refine fin_ret rfl (by repeat' (first | exact trivial | exact Nat.zero_lt_one | omega | refine ⟨?_, ?_⟩)) (rfl) rfl
    · cases two
      · ((repeat' (first | (refine awpL_step TT rfl rfl rfl sd ?_) | (refine awpL_nil ?_) | (refine awpL_skip rfl rfl ?_) | (refine awpQ_step TT rfl rfl rfl rfl sd ?_) | (refine awpQ_nil ?_) | (refine awpQ_skip rfl rfl ?_) | (refine awp_seq ?_) | (refine awp_region ?_) | ((first | refine awpL_one (n1 _ _) rfl rfl rfl rfl rfl rfl rfl ft rfl rfl (NormV.out) ?_ | refine awpHop_one _ (n1 _ _) rfl rfl rfl rfl rfl rfl rfl rfl ft rfl rfl (NormV.out) sb rfl rfl ?_); rintro v b ⟨c6, hc6, rfl, he, -⟩; cases he) | ((first | refine awpL_one (n2 _ _) rfl rfl rfl rfl rfl rfl rfl ft rfl rfl (NormV.out) ?_ | refine awpHop_one _ (n2 _ _) rfl rfl rfl rfl rfl rfl rfl rfl ft rfl rfl (NormV.out) sb rfl rfl ?_); rintro v b ⟨c7, hc7, rfl, he, -⟩; cases he) | ((first | refine awpL_one (n3 _ _) rfl rfl rfl rfl rfl rfl rfl ft rfl rfl (NormV.out) ?_ | refine awpHop_one _ (n3 _ _) rfl rfl rfl rfl rfl rfl rfl rfl ft rfl rfl (NormV.out) sb rfl rfl ?_); rintro v b ⟨c8, hc8, rfl, he, -⟩; cases he) | ((first | refine awpL_one (n4 _ _ _) rfl rfl rfl rfl rfl rfl rfl ft rfl rfl (NormV.out) ?_ | refine awpHop_one _ (n4 _ _ _) rfl rfl rfl rfl rfl rfl rfl rfl ft rfl rfl (NormV.out) sb rfl rfl ?_); rintro v b ⟨c9, hc9, rfl, he, -⟩; cases he) | ((first | refine awpL_one (n5 _ _ _) rfl rfl rfl rfl rfl rfl rfl ft rfl rfl (NormV.out) ?_ | refine awpHop_one _ (n5 _ _ _) rfl rfl rfl rfl rfl rfl rfl rfl ft rfl rfl (NormV.out) sb rfl rfl ?_); rintro v b ⟨c10, hc10, rfl, he, -⟩; cases he) | (refine awp_block ?_) | (refine awp_exit ?_) | (refine awp_skip ?_) | (refine awp_ret ?_) | (refine awp_cond_t rfl ?_) | (refine awp_cond_f rfl ?_) | (refine awp_quiet TM rfl (by kernel_rfl) ?_) | ((first | refine awpL_split rfl rfl rfl (fun hc => ?_) (fun hc => ?_) | refine awpQ_split rfl rfl rfl (fun hc => ?_) (fun hc => ?_) | refine awp_cond rfl (fun hc => ?_) (fun hc => ?_)) <;> ((try simp at hc) <;> try contradiction)))) <;> try (exfalso; omega))
        all_goals refine fin_ret rfl (by repeat' (first | exact trivial | exact Nat.zero_lt_one | omega | refine ⟨?_, ?_⟩)) (rfl) rfl
      · have gx := opt_some hx1 hx2 rfl
        have gy := opt_some hy1 hy2 rfl
        have est : three = true → four = true → s = t := fun q1 q2 => addIn_uni gx gy (opt_some hs1 hs2 q1) (opt_some ht1 ht2 q2)
        have hbn : bs.all numB = true := by obtain ⟨_, _, _, _, _, _, _, _, h, _⟩ := norm_spec gx; exact h
        have hcn : cs.all numB = true := by obtain ⟨_, _, _, _, _, _, _, _, h, _⟩ := norm_spec gy; exact h
        obtain ⟨D, hD⟩ : ∃ D, D = subTo bs cs bs.length := ⟨_, rfl⟩
        obtain ⟨u, kd, hul, ⟨hu1, hu2⟩, hU⟩ := norm_form (r := r) (c := kc) (xs := zs) (vs := D)
        have n6 := fun ca cv => d_zeroI r kc zs D u kd ca cv (by omega) (by rw [hD, subTo_len]; omega) hul hU
        have n7 := fun ca cv => d_normI r kc zs x ca cv (by omega) (by omega)
        rw [norm_idem gx] at n7
        have hzv : ∃ zb, zeroV u kd = .tup [.one (.bool zb), .one (.bool kd)] ∧ (kd = true → zb = decide (x = y)) := ⟨_, rfl, fun q => by
          have h := zero_iff gx gy (opt_some hu1 hu2 q) (d := D) (fun k hk => by rw [hD]; exact subTo_at hk)
          rw [q, Bool.true_and]
          refine decide_eq_decide.2 (Iff.trans ?_ h)
          simp [zoP]⟩
        obtain ⟨zb, hzv1, hzv2⟩ := hzv
        rw [hzv1] at n6
        have m1 := fun c d => d_sameI s t c d (by omega) (by omega)
        have m2 := fun c d => d_sameI x y c d (by omega) (by omega)
        have m3 := fun c d => d_sameI x x c d (by omega) (by omega)
        rw [decide_eq_true rfl] at m3
        clear hX hY hS hT hU
        ((repeat' (first | (refine awpL_step TT rfl rfl rfl sd ?_) | (refine awpL_nil ?_) | (refine awpL_skip rfl rfl ?_) | (refine awpQ_step TT rfl rfl rfl rfl sd ?_) | (refine awpQ_nil ?_) | (refine awpQ_skip rfl rfl ?_) | (refine awp_seq ?_) | (refine awp_region ?_) | ((first | refine awpL_one (n1 _ _) rfl rfl rfl rfl rfl rfl rfl ft rfl rfl (NormV.out) ?_ | refine awpHop_one _ (n1 _ _) rfl rfl rfl rfl rfl rfl rfl rfl ft rfl rfl (NormV.out) sb rfl rfl ?_); rintro v b ⟨c6, hc6, rfl, he, -⟩; cases he) | ((first | refine awpL_one (n2 _ _) rfl rfl rfl rfl rfl rfl rfl ft rfl rfl (NormV.out) ?_ | refine awpHop_one _ (n2 _ _) rfl rfl rfl rfl rfl rfl rfl rfl ft rfl rfl (NormV.out) sb rfl rfl ?_); rintro v b ⟨c7, hc7, rfl, he, -⟩; cases he) | ((first | refine awpL_one (n3 _ _) rfl rfl rfl rfl rfl rfl rfl ft rfl rfl (NormV.out) ?_ | refine awpHop_one _ (n3 _ _) rfl rfl rfl rfl rfl rfl rfl rfl ft rfl rfl (NormV.out) sb rfl rfl ?_); rintro v b ⟨c8, hc8, rfl, he, -⟩; cases he) | ((first | refine awpL_one (n4 _ _ _) rfl rfl rfl rfl rfl rfl rfl ft rfl rfl (NormV.out) ?_ | refine awpHop_one _ (n4 _ _ _) rfl rfl rfl rfl rfl rfl rfl rfl ft rfl rfl (NormV.out) sb rfl rfl ?_); rintro v b ⟨c9, hc9, rfl, he, -⟩; cases he) | ((first | refine awpL_one (n5 _ _ _) rfl rfl rfl rfl rfl rfl rfl ft rfl rfl (NormV.out) ?_ | refine awpHop_one _ (n5 _ _ _) rfl rfl rfl rfl rfl rfl rfl rfl ft rfl rfl (NormV.out) sb rfl rfl ?_); rintro v b ⟨c10, hc10, rfl, he, -⟩; cases he) | (refine awp_block ?_) | (refine awp_exit ?_) | (refine awp_skip ?_) | (refine awp_ret ?_) | (refine awp_cond_t rfl ?_) | (refine awp_cond_f rfl ?_) | ((first | refine awpL_split rfl rfl rfl (fun hc => ?_) (fun hc => ?_) | refine awpQ_split rfl rfl rfl (fun hc => ?_) (fun hc => ?_) | refine awp_cond rfl (fun hc => ?_) (fun hc => ?_)) <;> ((try simp at hc) <;> try contradiction)))) <;> try (exfalso; omega))
        refine awp_loop hE (fun x : Nat × Nat => x.1 ≤ bs.length ∧ x.1 ≤ x.2) (fun x => bs.length - x.1)
          (fun p => [(3, .one (.ptr 5 3 0 0)), (4, vS 3 1 0 bs.length cap2), (5, vS 4 1 0 cs.length cap3), (6, vS 6 1 0 x.length c6), (10, vS 8 1 0 y.length c8), (12, vS 9 1 0 s.length c9), (13, vB three), (14, vS 10 1 0 t.length c10), (15, vB four), (16, vS 11 1 0 p.1 p.2), (17, vI p.1)])
          (fun p => [(2, .own 3 cap1 (.ints zs)), (3, .own 3 cap2 (.ints bs)), (4, .own 3 cap3 (.ints cs)), (5, .own 27 1 (.lit [.int r, .int kc, .sl 2 1 0 zs.length cap1])), (6, .own 3 c6 (.ints x)), (8, .own 3 c8 (.ints y)), (9, .own 3 c9 (.ints s)), (10, .own 3 c10 (.ints t)), (11, .own 3 p.2 (.ints (subTo bs cs p.1)))]) 12 [] (0, 0) ⟨Nat.zero_le _, Nat.le_refl _⟩ ⟨(by repeat' (first | exact trivial | refine ⟨rfl, ?_⟩ | refine ⟨congrArg some (congrArg vI (by first | omega | (simp; done) | (simp; omega))), ?_⟩ | refine ⟨sl_eqA (by first | omega | (simp; done) | (simp; omega)), ?_⟩)), (by repeat' (first | exact trivial | refine ⟨rfl, ?_⟩)), rfl⟩ ?_
        rintro ⟨k, cd⟩ ⟨hk1, hk2⟩
        dsimp only at hk1 hk2 ⊢
        have hsl2 := subTo_len (vs := bs) (ws := cs) (k := k)
        by_cases hkl : k < bs.length
        · have f1 := num_getD hbn (0 + (k : Int).toNat)
          have f2 := num_getD hcn (0 + (k : Int).toNat)
          have f3 : subTo bs cs k ++ [bs.getD (0 + (k : Int).toNat) 0 - cs.getD (0 + (k : Int).toNat) 0] = subTo bs cs (k + 1) := by simp [subTo]
          have hkn : ¬ bs.length ≤ k := by omega
          ((repeat' (first | (refine awpL_step TT rfl rfl rfl sd ?_) | (refine awpL_nil ?_) | (refine awpL_skip rfl rfl ?_) | (refine awpQ_step TT rfl rfl rfl rfl sd ?_) | (refine awpQ_nil ?_) | (refine awpQ_skip rfl rfl ?_) | (refine awp_seq ?_) | (refine awp_region ?_) | (refine awp_block ?_) | (refine awp_exit ?_) | (refine awp_skip ?_) | (refine awp_ret ?_) | (refine awp_cond_t rfl ?_) | (refine awp_cond_f rfl ?_) | ((first | refine awpL_split rfl rfl rfl (fun hc => ?_) (fun hc => ?_) | refine awpQ_split rfl rfl rfl (fun hc => ?_) (fun hc => ?_) | refine awp_cond rfl (fun hc => ?_) (fun hc => ?_)) <;> ((try simp at hc) <;> try contradiction)))) <;> try (exfalso; omega))
          refine awp_held TM [(3, _), (4, _)] sb rfl (fun ρs => ?_)
          refine awpH_take TT 0 rfl kr kr kr nh rfl rfl rfl rfl sd ?_
          refine awpH_take TT 1 rfl kr kr kr nh rfl rfl rfl rfl sd ?_
          refine awpH_take TT 2 rfl kr kr kr nh rfl rfl rfl rfl sd ?_
          first | (refine awpH_take TT 3 rfl kr kr kr nh rfl rfl rfl rfl sd ?_) | (refine awpH_idx TT 3 rfl kr kr kr nh rfl rfl rfl rfl rfl sd ?_)
          refine awpH_take TT 4 rfl kr kr kr nh rfl rfl rfl rfl sd ?_
          refine awpH_take TT 5 rfl kr kr kr nh rfl rfl rfl rfl sd ?_
          refine awpH_take TT 6 rfl kr kr kr nh rfl rfl rfl rfl sd ?_
          first | (refine awpH_take TT 7 rfl kr kr kr nh rfl rfl rfl rfl sd ?_) | (refine awpH_idx TT 7 rfl kr kr kr nh rfl rfl rfl rfl rfl sd ?_)
          refine awpH_take TT 8 rfl kr kr kr nh rfl rfl rfl rfl sd ?_
          refine awpH_take TT 9 rfl kr kr kr nh rfl rfl rfl rfl sd ?_
          refine awpH_all [10] kr rfl ⟨?_, trivial⟩
          first | (refine awpHop_step TT 10 rfl rfl rfl rfl sd sb rfl ?_) | (first | (refine awpL_append TT rfl rfl rfl rfl rfl sd ?_; intro cap hcap) | (refine awpHop_append TT _ rfl rfl rfl rfl rfl rfl sd sb rfl rfl ?_; intro cap hcap))
          refine awpH_all [11] kr rfl ⟨?_, trivial⟩
          first | (refine awpHop_step TT 11 rfl rfl rfl rfl sd sb rfl ?_) | (first | (refine awpL_append TT rfl rfl rfl rfl rfl sd ?_; intro cap hcap) | (refine awpHop_append TT _ rfl rfl rfl rfl rfl rfl sd sb rfl rfl ?_; intro cap hcap))
          refine awpH_take TT 12 rfl kr kr kr nh rfl rfl rfl rfl sd ?_
          refine awpH_done kr ?_
          rotate_left
          all_goals ((repeat' (first | (refine awpL_step TT rfl rfl rfl sd ?_) | (refine awpL_nil ?_) | (refine awpL_skip rfl rfl ?_) | (refine awpQ_step TT rfl rfl rfl rfl sd ?_) | (refine awpQ_nil ?_) | (refine awpQ_skip rfl rfl ?_) | (refine awp_seq ?_) | (refine awp_region ?_) | (refine awp_block ?_) | (refine awp_exit ?_) | (refine awp_skip ?_) | (refine awp_ret ?_) | (refine awp_cond_t rfl ?_) | (refine awp_cond_f rfl ?_) | ((first | refine awpL_split rfl rfl rfl (fun hc => ?_) (fun hc => ?_) | refine awpQ_split rfl rfl rfl (fun hc => ?_) (fun hc => ?_) | refine awp_cond rfl (fun hc => ?_) (fun hc => ?_)) <;> ((try simp at hc) <;> try contradiction)))) <;> try (exfalso; omega))
          all_goals exact ⟨[(11, 13)], (k + 1, cap), ⟨hkl, by dsimp only at *; omega⟩, (by first | omega | (dsimp only; omega)), ⟨(by repeat' (first | exact trivial | refine ⟨rfl, ?_⟩ | refine ⟨congrArg some (congrArg vI (by first | omega | (simp; done) | (simp; omega))), ?_⟩ | refine ⟨sl_eqA (by first | omega | (simp; done) | (simp; omega)), ?_⟩)), ⟨rfl, rfl, rfl, rfl, rfl, rfl, rfl, rfl, own_ints f3, trivial⟩, rfl⟩⟩
        · obtain rfl : k = bs.length := by omega
          rw [← hD]
          have hDl : D.length = bs.length := by rw [hD]; exact hsl2
          rw [← hDl]
          cases three <;> cases four <;> cases kd
          all_goals try rw [decide_eq_true (est rfl rfl)] at m1
          all_goals try rw [hzv2 rfl] at n6
          all_goals
            cases decide (x = y)
            all_goals cases zb
            all_goals ((repeat' (first | (refine awpL_step TT rfl rfl rfl sd ?_) | (refine awpL_nil ?_) | (refine awpL_skip rfl rfl ?_) | (refine awpQ_step TT rfl rfl rfl rfl sd ?_) | (refine awpQ_nil ?_) | (refine awpQ_skip rfl rfl ?_) | (refine awp_seq ?_) | (refine awp_region ?_) | (first | refine awpL_ret (n6 _ _) rfl rfl rfl rfl rfl rfl rfl rfl ft rfl rfl ?_ | refine awpQ_ret (n6 _ _) rfl rfl rfl rfl rfl rfl rfl rfl ft rfl rfl ?_ | refine awpHop_ret _ (n6 _ _) rfl rfl rfl rfl rfl rfl rfl rfl rfl ft rfl rfl sb rfl ?_) | ((first | refine awpL_one (n7 _ _) rfl rfl rfl rfl rfl rfl rfl ft rfl rfl (NormV.out) ?_ | refine awpHop_one _ (n7 _ _) rfl rfl rfl rfl rfl rfl rfl rfl ft rfl rfl (NormV.out) sb rfl rfl ?_); rintro v b ⟨c12, hc12, rfl, he, -⟩; cases he) | (first | refine awpL_ret (m1 _ _) rfl rfl rfl rfl rfl rfl rfl rfl ft rfl rfl ?_ | refine awpQ_ret (m1 _ _) rfl rfl rfl rfl rfl rfl rfl rfl ft rfl rfl ?_ | refine awpHop_ret _ (m1 _ _) rfl rfl rfl rfl rfl rfl rfl rfl rfl ft rfl rfl sb rfl ?_) | (first | refine awpL_ret (m2 _ _) rfl rfl rfl rfl rfl rfl rfl rfl ft rfl rfl ?_ | refine awpQ_ret (m2 _ _) rfl rfl rfl rfl rfl rfl rfl rfl ft rfl rfl ?_ | refine awpHop_ret _ (m2 _ _) rfl rfl rfl rfl rfl rfl rfl rfl rfl ft rfl rfl sb rfl ?_) | (first | refine awpL_ret (m3 _ _) rfl rfl rfl rfl rfl rfl rfl rfl ft rfl rfl ?_ | refine awpQ_ret (m3 _ _) rfl rfl rfl rfl rfl rfl rfl rfl ft rfl rfl ?_ | refine awpHop_ret _ (m3 _ _) rfl rfl rfl rfl rfl rfl rfl rfl rfl ft rfl rfl sb rfl ?_) | (refine awp_block ?_) | (refine awp_exit ?_) | (refine awp_skip ?_) | (refine awp_ret ?_) | (refine awp_cond_t rfl ?_) | (refine awp_cond_f rfl ?_) | (refine awp_quiet TM rfl (by kernel_rfl) ?_) | ((first | refine awpL_split rfl rfl rfl (fun hc => ?_) (fun hc => ?_) | refine awpQ_split rfl rfl rfl (fun hc => ?_) (fun hc => ?_) | refine awp_cond rfl (fun hc => ?_) (fun hc => ?_)) <;> ((try simp at hc) <;> try contradiction)))) <;> try (exfalso; omega))
            all_goals refine fin_ret rfl (by repeat' (first | exact trivial | exact Nat.zero_lt_one | omega | refine ⟨?_, ?_⟩)) (rfl) rfl
end Go.Proofs.Ytmkoifmokdmebaa
