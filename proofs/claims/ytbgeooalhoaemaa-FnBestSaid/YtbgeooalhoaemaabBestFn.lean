/-
  THE LAW FnBest, walked: no point of a body has a greater product than the best one.
-/
import Derived.Test.YtbgeooalhoaemaabBestI
import Derived.Test.YtbgeooalhoaemaabSame
import Derived.Test.YtbgeooalhoaemaabDrawB
set_option linter.unusedVariables false
set_option linter.unusedSimpArgs false
namespace Go.Proofs.Ytbgeooalhoaemaa
open Go.RowKit

theorem best_max {cs : List Int} {L : List (List Int)} : ∀ i q : Nat, q < i → valN cs (L.getD q []) ≤ (bestS cs L i).2
  | 0, q, h => by omega
  | i + 1, q, h => by
    rw [bestS]
    split
    · rename_i hc
      rcases Nat.lt_or_ge q i with c | c
      · have := best_max (cs := cs) (L := L) i q c
        have h0 := (bestS_le (cs := cs) (L := L) i).2.1 (by omega)
        dsimp only; omega
      · obtain rfl : q = i := by omega
        exact Int.le_refl _
    · rename_i hc
      rcases Nat.lt_or_ge q i with c | c
      · exact best_max i q c
      · obtain rfl : q = i := by omega
        omega
def inBp (L : List (List Int)) (ys : List Int) : Nat → Bool
  | 0 => false
  | i + 1 => inBp L ys i || decide (L.getD i [] = ys)
theorem inBp_of {L : List (List Int)} {ys : List Int} : ∀ i q : Nat, q < i → L.getD q [] = ys → inBp L ys i = true
  | 0, q, h, _ => by omega
  | i + 1, q, h, e => by
    rw [inBp]
    rcases Nat.lt_or_ge q i with c | c
    · rw [inBp_of i q c e]; rfl
    · obtain rfl : q = i := by omega
      rw [decide_eq_true e, Bool.or_true]
theorem valN_dot {cs v : List Int} (h : (valZ cs v).isSome = true) : cs.all numB = true ∧ v.all numB = true ∧ v.length = cs.length ∧ cs.length ≤ 24 ∧ valN cs v = dotTo cs v cs.length 1 0 0 cs.length := by
  obtain ⟨p, hp⟩ := Option.isSome_iff_exists.1 h
  have hp0 := hp
  unfold valZ mulZ at hp0
  split at hp0
  · rename_i hc
    simp only [Bool.and_eq_true, beq_iff_eq] at hc
    obtain ⟨⟨⟨h1, h2⟩, h3⟩, h4⟩ := hc
    have e1 := isM_true h1
    have e2 := isM_true h2
    cases hp0
    refine ⟨e1.2, e2.2, by omega, by omega, ?_⟩
    rw [valN, hp]
    simp [mulM, List.range, List.range.loop]
  · cases hp0
theorem dotV_step (cs v : List Int) (n k : Nat) : dotTo cs v n 1 0 0 k + cs.getD (0 + (k : Int).toNat) 0 * v.getD (0 + (k : Int).toNat) 0 = dotTo cs v n 1 0 0 (k + 1) := by
  simp [dotTo]
set_option maxRecDepth 100000 in
set_option maxHeartbeats 16000000 in
theorem d_fnBest (bs : List Int) (c : Nat) : Does Try.prog 13 [vS 1 1 0 bs.length c] [(1, .ro (.bytes bs))] 2 (Ret (vB true) 2) := by
  refine Does.intro TT Try.func13 rfl (by kernel_rfl) rfl rfl fun E hE => ?_
  by_cases hb : (1048576 : Int) < bs.length
  · ((repeat' (first | (refine awpL_step TT rfl rfl rfl sd ?_) | (refine awpL_nil ?_) | (refine awpL_skip rfl rfl ?_) | (refine awpQ_step TT rfl rfl rfl rfl sd ?_) | (refine awpQ_nil ?_) | (refine awpQ_skip rfl rfl ?_) | (refine awp_seq ?_) | (refine awp_region ?_) | ((first | refine awpL_ret (d_big _ _) rfl rfl rfl rfl rfl rfl rfl rfl ft rfl rfl ?_ | refine awpQ_ret (d_big _ _) rfl rfl rfl rfl rfl rfl rfl rfl ft rfl rfl ?_ | refine awpHop_ret _ (d_big _ _) rfl rfl rfl rfl rfl rfl rfl rfl rfl ft rfl rfl sb rfl ?_) <;> simp only [hb]) | (refine awp_block ?_) | (refine awp_exit ?_) | (refine awp_skip ?_) | (refine awp_ret ?_) | (refine awp_cond_t rfl ?_) | (refine awp_cond_f rfl ?_) | (refine awp_quiet TM rfl (by kernel_rfl) ?_) | ((first | refine awpL_split rfl rfl rfl (fun hc => ?_) (fun hc => ?_) | refine awpQ_split rfl rfl rfl (fun hc => ?_) (fun hc => ?_) | refine awp_cond rfl (fun hc => ?_) (fun hc => ?_)) <;> ((try simp at hc) <;> try contradiction)))) <;> try (exfalso; omega))
    all_goals refine fin_ret rfl (by repeat' (first | exact trivial | exact Nat.zero_lt_one | omega | refine ⟨?_, ?_⟩)) (rfl) rfl
  · have hl : bs.length ≤ 1048576 := by omega
    ((repeat' (first | (refine awpL_step TT rfl rfl rfl sd ?_) | (refine awpL_nil ?_) | (refine awpL_skip rfl rfl ?_) | (refine awpQ_step TT rfl rfl rfl rfl sd ?_) | (refine awpQ_nil ?_) | (refine awpQ_skip rfl rfl ?_) | (refine awp_seq ?_) | (refine awp_region ?_) | ((first | refine awpL_ret (d_big _ _) rfl rfl rfl rfl rfl rfl rfl rfl ft rfl rfl ?_ | refine awpQ_ret (d_big _ _) rfl rfl rfl rfl rfl rfl rfl rfl ft rfl rfl ?_ | refine awpHop_ret _ (d_big _ _) rfl rfl rfl rfl rfl rfl rfl rfl rfl ft rfl rfl sb rfl ?_) <;> simp only [hb]) | ((refine awpL_call (d_drawBest bs c hl) rfl rfl rfl rfl rfl rfl rfl ft rfl ?_)) | (refine awp_block ?_) | (refine awp_exit ?_) | (refine awp_skip ?_) | (refine awp_ret ?_) | (refine awp_cond_t rfl ?_) | (refine awp_cond_f rfl ?_) | ((first | refine awpL_split rfl rfl rfl (fun hc => ?_) (fun hc => ?_) | refine awpQ_split rfl rfl rfl (fun hc => ?_) (fun hc => ?_) | refine awp_cond rfl (fun hc => ?_) (fun hc => ?_)) <;> ((try simp at hc) <;> try contradiction)))) <;> try (exfalso; omega))
    rintro v Hout n1 ⟨kc, r, s, xs, ds, cs, cap1, cap2, cap3, hk, hxl, hdl, hcl, hxc, hdc, hcc, hs4, rfl, rfl, rfl⟩
    have h1 := fun ca cb cc => d_bestI r kc s xs ds cs ca cb cc (by omega) (by omega) (by omega)
    have h2 := fun ca cb cc => d_bestS r kc s xs ds cs ca cb cc (by omega) (by omega) (by omega)
    have h3 := fun ca cb => d_ptsI r kc s xs ds ca cb (by omega) (by omega)
    cases ho : ptsO r kc xs ds s with
    | none =>
      have hbo : bestO r kc xs ds cs s = none := by simp [bestO, ho]
      rw [hbo] at h1 h2
      rw [ho] at h3
      ((repeat' (first | (refine awpL_step TT rfl rfl rfl sd ?_) | (refine awpL_nil ?_) | (refine awpL_skip rfl rfl ?_) | (refine awpQ_step TT rfl rfl rfl rfl sd ?_) | (refine awpQ_nil ?_) | (refine awpQ_skip rfl rfl ?_) | (refine awp_seq ?_) | (refine awp_region ?_) | ((refine awpL_call (h1 _ _ _) rfl rfl rfl rfl rfl rfl rfl ft rfl ?_); rintro v Hout n1 ⟨c5, rfl, rfl, rfl⟩) | ((refine awpL_call (h2 _ _ _) rfl rfl rfl rfl rfl rfl rfl ft rfl ?_); rintro v Hout n1 ⟨c6, rfl, rfl, rfl⟩) | ((refine awpL_call (h3 _ _) rfl rfl rfl rfl rfl rfl rfl ft rfl ?_); rintro v Hout n1 ⟨rfl, rfl, rfl⟩) | (refine awp_block ?_) | (refine awp_exit ?_) | (refine awp_skip ?_) | (refine awp_ret ?_) | (refine awp_cond_t rfl ?_) | (refine awp_cond_f rfl ?_) | ((first | refine awpL_split rfl rfl rfl (fun hc => ?_) (fun hc => ?_) | refine awpQ_split rfl rfl rfl (fun hc => ?_) (fun hc => ?_) | refine awp_cond rfl (fun hc => ?_) (fun hc => ?_)) <;> ((try simp at hc) <;> try contradiction)))) <;> try (exfalso; omega))
      all_goals refine fin_ret rfl (by repeat' (first | exact trivial | exact Nat.zero_lt_one | omega | refine ⟨?_, ?_⟩)) (rfl) rfl
    | some L =>
      obtain ⟨⟨b, hkb, hb1, hb2, hrl⟩, hL⟩ := ptsO_dim ho
      rw [ho] at h3
      by_cases hg : L ≠ [] ∧ (cs.length : Int) = kc ∧ okV cs L L.length = true
      · have hbo : bestO r kc xs ds cs s = some (L.getD (bestS cs L L.length).1.toNat [], (bestS cs L L.length).2) := by simp only [bestO, ho]; rw [if_pos hg]
        have hlt : (bestS cs L L.length).1.toNat < L.length := by
          have := (bestS_le (cs := cs) (L := L) L.length).2.2
          have := List.length_pos_iff.2 hg.1
          omega
        obtain ⟨ys, hys⟩ : ∃ ys, ys = L.getD (bestS cs L L.length).1.toNat [] := ⟨_, rfl⟩
        obtain ⟨z, hz⟩ : ∃ z, z = (bestS cs L L.length).2 := ⟨_, rfl⟩
        have hin := inBp_of L.length _ hlt hys.symm
        have hyl : ys.length ≤ 24 := by
          have e : L.getD (bestS cs L L.length).1.toNat [] = L[(bestS cs L L.length).1.toNat] := by simp [hlt]
          rw [hys, e, hrl _ (List.getElem_mem hlt)]; exact hb2
        have hok := of_decide_eq_true hg.2.2
        have hmax : ∀ q, q < L.length → valN cs (L.getD q []) ≤ z := fun q hq => by rw [hz]; exact best_max _ q hq
        rw [← hys, ← hz] at hbo
        rw [hbo] at h1 h2
        clear hys hz hbo
        ((repeat' (first | (refine awpL_step TT rfl rfl rfl sd ?_) | (refine awpL_nil ?_) | (refine awpL_skip rfl rfl ?_) | (refine awpQ_step TT rfl rfl rfl rfl sd ?_) | (refine awpQ_nil ?_) | (refine awpQ_skip rfl rfl ?_) | (refine awp_seq ?_) | (refine awp_region ?_) | ((refine awpL_call (h1 _ _ _) rfl rfl rfl rfl rfl rfl rfl ft rfl ?_); rintro v Hout n1 ⟨c5, rfl, rfl, rfl⟩) | ((refine awpL_call (h2 _ _ _) rfl rfl rfl rfl rfl rfl rfl ft rfl ?_); rintro v Hout n1 ⟨c6, rfl, rfl, rfl⟩) | ((refine awpL_call (h3 _ _) rfl rfl rfl rfl rfl rfl rfl ft rfl ?_); rintro v Hout n1 ⟨l, cap, hlL, rfl, rfl, rfl⟩; have hll := rowsX_len hlL) | (refine awp_block ?_) | (refine awp_exit ?_) | (refine awp_skip ?_) | (refine awp_ret ?_) | (refine awp_cond_t rfl ?_) | (refine awp_cond_f rfl ?_) | ((first | refine awpL_split rfl rfl rfl (fun hc => ?_) (fun hc => ?_) | refine awpQ_split rfl rfl rfl (fun hc => ?_) (fun hc => ?_) | refine awp_cond rfl (fun hc => ?_) (fun hc => ?_)) <;> ((try simp at hc) <;> try contradiction)))) <;> try (exfalso; omega))
        refine awp_loop hE (fun i : Nat => i ≤ l.length) (fun i => l.length - i)
          (fun i => [(5, vS 4 1 0 cs.length cap3), (7, vS 6 1 0 ys.length c5), (8, vI z), (13, vS 8 1 0 l.length cap), (14, vB true), (15, vB (inBp L ys i)), (16, vI i)])
          (fun i => [(4, .own 3 cap3 (.ints cs)), (6, .own 3 c5 (.ints ys)), (8, .own 22 cap (.rows false true l)), (9, .tok 3 false l)]) 10 [] 0 (Nat.zero_le _) ⟨(by repeat' (first | exact trivial | refine ⟨rfl, ?_⟩ | refine ⟨congrArg some (congrArg vI (by first | omega | (simp; done) | (simp; omega))), ?_⟩ | refine ⟨sl_eqA (by first | omega | (simp; done) | (simp; omega)), ?_⟩)), (by repeat' (first | exact trivial | refine ⟨rfl, ?_⟩)), rfl⟩ ?_
        intro j hj
        by_cases hjl : j < l.length
        · have hjL : j < L.length := by omega
          have hx : (l.getD (0 + (j : Int).toNat) rowD).xs = L.getD j [] := by rw [getD_row0 hlL]; simp
          obtain ⟨hcn, hvn, hvl, hc24, hve⟩ := valN_dot (hok j hjL)
          have hm := hmax j hjL
          rw [hve] at hm
          rw [← hx] at hvn hvl hm
          have hsame := fun c d => d_sameI (l.getD (0 + (j : Int).toNat) rowD).xs ys c d (by omega) (by omega)
          have hbd := fun k => dotTo_bd (n := cs.length) (c := 1) (i := 0) (j := 0) hcn hvn k
          ((repeat' (first | (refine awpL_step TT rfl rfl rfl sd ?_) | (refine awpL_nil ?_) | (refine awpL_skip rfl rfl ?_) | (refine awpQ_step TT rfl rfl rfl rfl sd ?_) | (refine awpQ_nil ?_) | (refine awpQ_skip rfl rfl ?_) | (refine awp_seq ?_) | (refine awp_region ?_) | (refine awp_block ?_) | (refine awp_exit ?_) | (refine awp_skip ?_) | (refine awp_ret ?_) | (refine awp_cond_t rfl ?_) | (refine awp_cond_f rfl ?_) | ((first | refine awpL_split rfl rfl rfl (fun hc => ?_) (fun hc => ?_) | refine awpQ_split rfl rfl rfl (fun hc => ?_) (fun hc => ?_) | refine awp_cond rfl (fun hc => ?_) (fun hc => ?_)) <;> ((try simp at hc) <;> try contradiction)))) <;> try (exfalso; omega))
          obtain ⟨row, hrow⟩ : ∃ row, row = (l.getD (0 + (j : Int).toNat) rowD).xs := ⟨_, rfl⟩
          refine awp_loop hE (fun x : Nat × Int => x.1 ≤ cs.length ∧ x.2 = dotTo cs row cs.length 1 0 0 x.1) (fun x => cs.length - x.1)
            (fun x => [(5, vS 4 1 0 cs.length cap3), (7, vS 6 1 0 ys.length c5), (8, vI z), (13, vS 8 1 0 l.length cap), (14, vB true), (15, vB (inBp L ys j)), (16, vI j), (17, vI x.2), (18, vI x.1)])
            (fun _ => [(4, .own 3 cap3 (.ints cs)), (6, .own 3 c5 (.ints ys)), (8, .own 22 cap (.rows false true l)), (9, .tok 3 false l)]) 10 [] (0, 0) ⟨Nat.zero_le _, rfl⟩ ⟨(by repeat' (first | exact trivial | refine ⟨rfl, ?_⟩ | refine ⟨congrArg some (congrArg vI (by first | omega | (simp; done) | (simp; omega))), ?_⟩ | refine ⟨sl_eqA (by first | omega | (simp; done) | (simp; omega)), ?_⟩)), (by repeat' (first | exact trivial | refine ⟨rfl, ?_⟩)), rfl⟩ ?_
          rintro ⟨k, m⟩ ⟨hk2, hmk⟩
          dsimp only at hk2 hmk ⊢
          by_cases hkc : k < cs.length
          · have f1 := hbd k
            have f2 := prod_getD hcn hvn (0 + (k : Int).toNat) (0 + (k : Int).toNat)
            have f3 := dotV_step cs row cs.length k
            rw [← hrow, ← hmk] at f1
            rw [← hmk] at f3
            have f4 : m + cs.getD (0 + (k : Int).toNat) 0 * (l.getD (0 + (j : Int).toNat) rowD).xs.getD (0 + (k : Int).toNat) 0 = dotTo cs row cs.length 1 0 0 (k + 1) := by rw [← hrow]; exact f3
            clear h3 hok hmax hrl hg hm hsame hbd hin
            have hkn : ¬ cs.length ≤ k := by omega
            ((repeat' (first | (refine awpL_step TT rfl rfl rfl sd ?_) | (refine awpL_nil ?_) | (refine awpL_skip rfl rfl ?_) | (refine awpQ_step TT rfl rfl rfl rfl sd ?_) | (refine awpQ_nil ?_) | (refine awpQ_skip rfl rfl ?_) | (refine awp_seq ?_) | (refine awp_region ?_) | (refine awp_block ?_) | (refine awp_exit ?_) | (refine awp_skip ?_) | (refine awp_ret ?_) | (refine awp_cond_t rfl ?_) | (refine awp_cond_f rfl ?_) | ((first | refine awpL_split rfl rfl rfl (fun hc => ?_) (fun hc => ?_) | refine awpQ_split rfl rfl rfl (fun hc => ?_) (fun hc => ?_) | refine awp_cond rfl (fun hc => ?_) (fun hc => ?_)) <;> ((try simp at hc) <;> try contradiction)))) <;> try (exfalso; omega))
            refine awp_held TM [(4, _)] sb rfl (fun ρs => ?_)
            refine awpH_take TT 0 rfl kr kr kr nh rfl rfl rfl rfl sd ?_
            refine awpH_take TT 1 rfl kr kr kr nh rfl rfl rfl rfl sd ?_
            refine awpH_take TT 2 rfl kr kr kr nh rfl rfl rfl rfl sd ?_
            first | (refine awpH_take TT 3 rfl kr kr kr nh rfl rfl rfl rfl sd ?_) | (refine awpH_idx TT 3 rfl kr kr kr nh rfl rfl rfl rfl rfl sd ?_)
            refine awpH_take TT 4 rfl kr kr kr nh rfl rfl rfl rfl sd ?_
            refine awpH_take TT 5 rfl kr kr kr nh rfl rfl rfl rfl sd ?_
            refine awpH_take TT 6 rfl kr kr kr nh rfl rfl rfl rfl sd ?_
            first | (refine awpH_take TT 7 rfl kr kr kr nh rfl rfl rfl rfl sd ?_) | (refine awpH_idx TT 7 rfl kr kr kr nh rfl rfl rfl rfl rfl sd ?_)
            refine awpH_take TT 9 rfl kr kr kr nh rfl rfl rfl rfl sd ?_
            refine awpH_all [8] kr rfl ⟨?_, trivial⟩
            first | (refine awpHop_step TT 8 rfl rfl rfl rfl sd sb rfl ?_)
            first | (refine awpH_take TT 10 rfl kr kr kr nh rfl rfl rfl rfl sd ?_) | (refine awpH_idx TT 10 rfl kr kr kr nh rfl rfl rfl rfl rfl sd ?_)
            refine awpH_all [11] kr rfl ⟨?_, trivial⟩
            first | (refine awpHop_step TT 11 rfl rfl rfl rfl sd sb rfl ?_)
            refine awpH_take TT 12 rfl kr kr kr nh rfl rfl rfl rfl sd ?_
            refine awpH_take TT 13 rfl kr kr kr nh rfl rfl rfl rfl sd ?_
            refine awpH_take TT 14 rfl kr kr kr nh rfl rfl rfl rfl sd ?_
            refine awpH_done kr ?_
            rotate_left
            all_goals ((repeat' (first | (refine awpL_step TT rfl rfl rfl sd ?_) | (refine awpL_nil ?_) | (refine awpL_skip rfl rfl ?_) | (refine awpQ_step TT rfl rfl rfl rfl sd ?_) | (refine awpQ_nil ?_) | (refine awpQ_skip rfl rfl ?_) | (refine awp_seq ?_) | (refine awp_region ?_) | (refine awp_block ?_) | (refine awp_exit ?_) | (refine awp_skip ?_) | (refine awp_ret ?_) | (refine awp_cond_t rfl ?_) | (refine awp_cond_f rfl ?_) | ((first | refine awpL_split rfl rfl rfl (fun hc => ?_) (fun hc => ?_) | refine awpQ_split rfl rfl rfl (fun hc => ?_) (fun hc => ?_) | refine awp_cond rfl (fun hc => ?_) (fun hc => ?_)) <;> ((try simp at hc) <;> try contradiction)))) <;> try (exfalso; omega))
            all_goals exact ⟨[], (k + 1, dotTo cs row cs.length 1 0 0 (k + 1)), ⟨hkc, rfl⟩, (by first | omega | (dsimp only; omega)), ⟨⟨rfl, rfl, rfl, rfl, rfl, rfl, rfl, congrArg some (congrArg vI f4), congrArg some (congrArg vI (by dsimp only; omega)), trivial⟩, ⟨rfl, rfl, rfl, rfl, trivial⟩, rfl⟩⟩
          · obtain rfl : k = cs.length := by omega
            rw [← hrow, ← hmk] at hm
            clear hok hmax hrl hbd
            cases hi : inBp L ys j
            · ((repeat' (first | (refine awpL_step TT rfl rfl rfl sd ?_) | (refine awpL_nil ?_) | (refine awpL_skip rfl rfl ?_) | (refine awpQ_step TT rfl rfl rfl rfl sd ?_) | (refine awpQ_nil ?_) | (refine awpQ_skip rfl rfl ?_) | (refine awp_seq ?_) | (refine awp_region ?_) | (first | refine awpL_ret (hsame _ _) rfl rfl rfl rfl rfl rfl rfl rfl ft rfl rfl ?_ | refine awpQ_ret (hsame _ _) rfl rfl rfl rfl rfl rfl rfl rfl ft rfl rfl ?_ | refine awpHop_ret _ (hsame _ _) rfl rfl rfl rfl rfl rfl rfl rfl rfl ft rfl rfl sb rfl ?_) | (refine awp_block ?_) | (refine awp_exit ?_) | (refine awp_skip ?_) | (refine awp_ret ?_) | (refine awp_cond_t rfl ?_) | (refine awp_cond_f rfl ?_) | (refine awp_quiet TM rfl (by kernel_rfl) ?_) | ((first | refine awpL_split rfl rfl rfl (fun hc => ?_) (fun hc => ?_) | refine awpQ_split rfl rfl rfl (fun hc => ?_) (fun hc => ?_) | refine awp_cond rfl (fun hc => ?_) (fun hc => ?_)) <;> ((try simp at hc) <;> try contradiction)))) <;> try (exfalso; omega))
              all_goals
                refine ⟨[], j + 1, hjl, (by first | omega | (dsimp only; omega)), ?_⟩
                dsimp only
                rw [inBp, hi, ← hx]
                exact ⟨(by repeat' (first | exact trivial | refine ⟨rfl, ?_⟩ | refine ⟨congrArg some (congrArg vI (by first | omega | (simp; done) | (simp; omega))), ?_⟩ | refine ⟨sl_eqA (by first | omega | (simp; done) | (simp; omega)), ?_⟩)), (by repeat' (first | exact trivial | refine ⟨rfl, ?_⟩)), rfl⟩
            · ((repeat' (first | (refine awpL_step TT rfl rfl rfl sd ?_) | (refine awpL_nil ?_) | (refine awpL_skip rfl rfl ?_) | (refine awpQ_step TT rfl rfl rfl rfl sd ?_) | (refine awpQ_nil ?_) | (refine awpQ_skip rfl rfl ?_) | (refine awp_seq ?_) | (refine awp_region ?_) | (first | refine awpL_ret (hsame _ _) rfl rfl rfl rfl rfl rfl rfl rfl ft rfl rfl ?_ | refine awpQ_ret (hsame _ _) rfl rfl rfl rfl rfl rfl rfl rfl ft rfl rfl ?_ | refine awpHop_ret _ (hsame _ _) rfl rfl rfl rfl rfl rfl rfl rfl rfl ft rfl rfl sb rfl ?_) | (refine awp_block ?_) | (refine awp_exit ?_) | (refine awp_skip ?_) | (refine awp_ret ?_) | (refine awp_cond_t rfl ?_) | (refine awp_cond_f rfl ?_) | (refine awp_quiet TM rfl (by kernel_rfl) ?_) | ((first | refine awpL_split rfl rfl rfl (fun hc => ?_) (fun hc => ?_) | refine awpQ_split rfl rfl rfl (fun hc => ?_) (fun hc => ?_) | refine awp_cond rfl (fun hc => ?_) (fun hc => ?_)) <;> ((try simp at hc) <;> try contradiction)))) <;> try (exfalso; omega))
              all_goals
                refine ⟨[], j + 1, hjl, (by first | omega | (dsimp only; omega)), ?_⟩
                dsimp only
                rw [inBp, hi]
                exact ⟨(by repeat' (first | exact trivial | refine ⟨rfl, ?_⟩ | refine ⟨congrArg some (congrArg vI (by first | omega | (simp; done) | (simp; omega))), ?_⟩ | refine ⟨sl_eqA (by first | omega | (simp; done) | (simp; omega)), ?_⟩)), (by repeat' (first | exact trivial | refine ⟨rfl, ?_⟩)), rfl⟩
        · obtain rfl : j = l.length := by omega
          rw [← hll] at hin
          rw [hin]
          ((repeat' (first | (refine awpL_step TT rfl rfl rfl sd ?_) | (refine awpL_nil ?_) | (refine awpL_skip rfl rfl ?_) | (refine awpQ_step TT rfl rfl rfl rfl sd ?_) | (refine awpQ_nil ?_) | (refine awpQ_skip rfl rfl ?_) | (refine awp_seq ?_) | (refine awp_region ?_) | (refine awp_block ?_) | (refine awp_exit ?_) | (refine awp_skip ?_) | (refine awp_ret ?_) | (refine awp_cond_t rfl ?_) | (refine awp_cond_f rfl ?_) | (refine awp_quiet TM rfl (by kernel_rfl) ?_) | ((first | refine awpL_split rfl rfl rfl (fun hc => ?_) (fun hc => ?_) | refine awpQ_split rfl rfl rfl (fun hc => ?_) (fun hc => ?_) | refine awp_cond rfl (fun hc => ?_) (fun hc => ?_)) <;> ((try simp at hc) <;> try contradiction)))) <;> try (exfalso; omega))
          all_goals refine fin_ret rfl (by repeat' (first | exact trivial | exact Nat.zero_lt_one | omega | refine ⟨?_, ?_⟩)) (rfl) rfl
      · have hbo : bestO r kc xs ds cs s = none := by simp only [bestO, ho]; rw [if_neg hg]
        rw [hbo] at h1 h2
        ((repeat' (first | (refine awpL_step TT rfl rfl rfl sd ?_) | (refine awpL_nil ?_) | (refine awpL_skip rfl rfl ?_) | (refine awpQ_step TT rfl rfl rfl rfl sd ?_) | (refine awpQ_nil ?_) | (refine awpQ_skip rfl rfl ?_) | (refine awp_seq ?_) | (refine awp_region ?_) | ((refine awpL_call (h1 _ _ _) rfl rfl rfl rfl rfl rfl rfl ft rfl ?_); rintro v Hout n1 ⟨c5, rfl, rfl, rfl⟩) | ((refine awpL_call (h2 _ _ _) rfl rfl rfl rfl rfl rfl rfl ft rfl ?_); rintro v Hout n1 ⟨c6, rfl, rfl, rfl⟩) | ((refine awpL_call (h3 _ _) rfl rfl rfl rfl rfl rfl rfl ft rfl ?_); rintro v Hout n1 ⟨l, cap, hlL, rfl, rfl, rfl⟩) | (refine awp_block ?_) | (refine awp_exit ?_) | (refine awp_skip ?_) | (refine awp_ret ?_) | (refine awp_cond_t rfl ?_) | (refine awp_cond_f rfl ?_) | ((first | refine awpL_split rfl rfl rfl (fun hc => ?_) (fun hc => ?_) | refine awpQ_split rfl rfl rfl (fun hc => ?_) (fun hc => ?_) | refine awp_cond rfl (fun hc => ?_) (fun hc => ?_)) <;> ((try simp at hc) <;> try contradiction)))) <;> try (exfalso; omega))
        all_goals refine fin_ret rfl (by repeat' (first | exact trivial | exact Nat.zero_lt_one | omega | refine ⟨?_, ?_⟩)) (rfl) rfl
end Go.Proofs.Ytbgeooalhoaemaa
