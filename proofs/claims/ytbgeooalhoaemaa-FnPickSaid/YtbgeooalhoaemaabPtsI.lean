/-
  CONTRACT: the points of a body, of the program.
-/
import Derived.Test.YtbgeooalhoaemaabPts
set_option linter.unusedVariables false
set_option linter.unusedSimpArgs false
namespace Go.Proofs.Ytbgeooalhoaemaa
open Go.RowKit

set_option maxRecDepth 100000 in
set_option maxHeartbeats 8000000 in
theorem d_ptsI (r c side : Int) (xs bs : List Int) (ca cb : Nat) (hl : xs.length ≤ 1099511627776) (hl' : bs.length ≤ 1099511627776) :
    Does Try.prog 45 [vM r c 1 xs.length ca, vS 2 1 0 bs.length cb, vI side] [(1, .ro (.ints xs)), (2, .ro (.ints bs))] 3 (PtsR 22 3 (ptsO r c xs bs side) 3) := by
  refine Does.intro TT Try.func45 rfl (by kernel_rfl) rfl rfl fun E hE => ?_
  cases hb0 : bodyM r c xs bs
  · have ho : ptsO r c xs bs side = none := by simp [ptsO, hb0]
    rw [ho]
    ((repeat' (first | (refine awpL_step TT rfl rfl rfl sd ?_) | (refine awpL_nil ?_) | (refine awpL_skip rfl rfl ?_) | (refine awpQ_step TT rfl rfl rfl rfl sd ?_) | (refine awpQ_nil ?_) | (refine awpQ_skip rfl rfl ?_) | (refine awp_seq ?_) | (refine awp_region ?_) | ((first | refine awpL_ret (d_bodyI _ _ _ _ _ _ hl hl') rfl rfl rfl rfl rfl rfl rfl rfl ft rfl rfl ?_ | refine awpQ_ret (d_bodyI _ _ _ _ _ _ hl hl') rfl rfl rfl rfl rfl rfl rfl rfl ft rfl rfl ?_ | refine awpHop_ret _ (d_bodyI _ _ _ _ _ _ hl hl') rfl rfl rfl rfl rfl rfl rfl rfl rfl ft rfl rfl sb rfl ?_) <;> simp only [hb0]) | (refine awp_block ?_) | (refine awp_exit ?_) | (refine awp_skip ?_) | (refine awp_ret ?_) | (refine awp_cond_t rfl ?_) | (refine awp_cond_f rfl ?_) | (refine awp_quiet TM rfl (by kernel_rfl) ?_) | ((first | refine awpL_split rfl rfl rfl (fun hc => ?_) (fun hc => ?_) | refine awpQ_split rfl rfl rfl (fun hc => ?_) (fun hc => ?_) | refine awp_cond rfl (fun hc => ?_) (fun hc => ?_)) <;> ((try simp at hc) <;> try contradiction)))) <;> try (exfalso; omega))
    exact fin rfl (by repeat' (first | exact trivial | exact Nat.zero_lt_one | omega | refine ⟨?_, ?_⟩)) [(3, 4)] (.tup [.one (.sl 3 1 0 0 0), .one (.bool false)]) [(3, .own 22 0 (.rows false true []))] 4 (⟨rfl, rfl, rfl⟩) rfl ⟨trivial, ⟨rfl, trivial⟩, rfl⟩ rfl
  · by_cases hs : 0 ≤ side ∧ side ≤ 10
    · have hob := hb0
      simp only [bodyM, Bool.and_eq_true, decide_eq_true_eq] at hob
      obtain ⟨⟨hco, hbl⟩, hbn⟩ := hob
      obtain ⟨a, b, rfl, rfl, ha, hb1, hb, hx, hnum⟩ := coneM_dims hco
      have hbl' : bs.length = a := by omega
      have ho : ptsO a b xs bs side = (boxO (List.replicate b (-side)) (List.replicate b side)).map (List.filter (ptIn a b xs bs)) := by simp [ptsO, hb0, hs]
      rw [ho]
      ((repeat' (first | (refine awpL_step TT rfl rfl rfl sd ?_) | (refine awpL_nil ?_) | (refine awpL_skip rfl rfl ?_) | (refine awpQ_step TT rfl rfl rfl rfl sd ?_) | (refine awpQ_nil ?_) | (refine awpQ_skip rfl rfl ?_) | (refine awp_seq ?_) | (refine awp_region ?_) | ((first | refine awpL_ret (d_bodyI _ _ _ _ _ _ hl hl') rfl rfl rfl rfl rfl rfl rfl rfl ft rfl rfl ?_ | refine awpQ_ret (d_bodyI _ _ _ _ _ _ hl hl') rfl rfl rfl rfl rfl rfl rfl rfl ft rfl rfl ?_ | refine awpHop_ret _ (d_bodyI _ _ _ _ _ _ hl hl') rfl rfl rfl rfl rfl rfl rfl rfl rfl ft rfl rfl sb rfl ?_) <;> simp only [hb0]) | (refine awp_block ?_) | (refine awp_exit ?_) | (refine awp_skip ?_) | (refine awp_ret ?_) | (refine awp_cond_t rfl ?_) | (refine awp_cond_f rfl ?_) | (refine awp_quiet TM rfl (by kernel_rfl) ?_) | ((first | refine awpL_split rfl rfl rfl (fun hc => ?_) (fun hc => ?_) | refine awpQ_split rfl rfl rfl (fun hc => ?_) (fun hc => ?_) | refine awp_cond rfl (fun hc => ?_) (fun hc => ?_)) <;> ((try simp at hc) <;> try contradiction)))) <;> try (exfalso; omega))
      refine awp_loop hE (fun x : Nat × Nat × Nat => x.1 ≤ b ∧ x.1 ≤ x.2.1 ∧ x.1 ≤ x.2.2) (fun x => b - x.1)
        (fun x => [(1, vS 2 1 0 bs.length cb), (2, vI side), (3, .one (.ptr 3 3 0 0)), (8, vS 4 1 0 x.1 x.2.1), (9, vS 5 1 0 x.1 x.2.2), (10, vI x.1)])
        (fun x => [(1, .ro (.ints xs)), (2, .ro (.ints bs)), (3, .own 27 1 (.lit [.int a, .int b, .sl 1 1 0 xs.length ca])), (4, .own 3 x.2.1 (.ints (List.replicate x.1 (-side)))), (5, .own 3 x.2.2 (.ints (List.replicate x.1 side)))]) 6 [] (0, 0, 0) ⟨Nat.zero_le _, Nat.le_refl _, Nat.le_refl _⟩ ⟨(by repeat' (first | exact trivial | refine ⟨rfl, ?_⟩ | refine ⟨congrArg some (congrArg vI (by first | omega | (simp; done) | (simp; omega))), ?_⟩ | refine ⟨sl_eqA (by first | omega | (simp; done) | (simp; omega)), ?_⟩)), (by repeat' (first | exact trivial | refine ⟨rfl, ?_⟩)), rfl⟩ ?_
      rintro ⟨i, c1, c2⟩ ⟨hi, hc1, hc2⟩
      dsimp only at hi hc1 hc2
      by_cases hib : i < b
      · ((repeat' (first | (refine awpL_step TT rfl rfl rfl sd ?_) | (refine awpL_nil ?_) | (refine awpL_skip rfl rfl ?_) | (refine awpQ_step TT rfl rfl rfl rfl sd ?_) | (refine awpQ_nil ?_) | (refine awpQ_skip rfl rfl ?_) | (refine awp_seq ?_) | (refine awp_region ?_) | (first | (refine awpL_append TT rfl rfl rfl rfl rfl sd ?_; intro cap hcap) | (refine awpHop_append TT _ rfl rfl rfl rfl rfl rfl sd sb rfl rfl ?_; intro cap hcap)) | (refine awp_block ?_) | (refine awp_exit ?_) | (refine awp_skip ?_) | (refine awp_ret ?_) | (refine awp_cond_t rfl ?_) | (refine awp_cond_f rfl ?_) | (refine awp_quiet TM rfl (by kernel_rfl) ?_) | ((first | refine awpL_split rfl rfl rfl (fun hc => ?_) (fun hc => ?_) | refine awpQ_split rfl rfl rfl (fun hc => ?_) (fun hc => ?_) | refine awp_cond rfl (fun hc => ?_) (fun hc => ?_)) <;> ((try simp at hc) <;> try contradiction)))) <;> try (exfalso; omega))
        refine ⟨[(4, 7), (5, 9)], (i + 1, _, _), ⟨hib, ?_, ?_⟩, (by first | omega | (dsimp only; omega)), ⟨(by repeat' (first | exact trivial | refine ⟨rfl, ?_⟩ | refine ⟨congrArg some (congrArg vI (by first | omega | (simp; done) | (simp; omega))), ?_⟩ | refine ⟨sl_eqA (by first | omega | (simp; done) | (simp; omega)), ?_⟩)), ⟨rfl, rfl, rfl, own_ints (by simp [List.replicate_succ']), own_ints (by simp [List.replicate_succ']), trivial⟩, rfl⟩⟩
        all_goals (dsimp only at *; omega)
      · obtain rfl : i = b := by omega
        have hbx := d_boxed (List.replicate i (-side)) (List.replicate i side) c1 c2 i (by simp) (by simp) (by simp; omega) (rep_num (by omega)) (rep_num (by omega)) fun k hk => rep_wid hs.1 hk
        rw [List.length_replicate] at hbx
        cases hbo : boxO (List.replicate i (-side)) (List.replicate i side) with
        | none =>
          rw [hbo] at hbx
          ((repeat' (first | (refine awpL_step TT rfl rfl rfl sd ?_) | (refine awpL_nil ?_) | (refine awpL_skip rfl rfl ?_) | (refine awpQ_step TT rfl rfl rfl rfl sd ?_) | (refine awpQ_nil ?_) | (refine awpQ_skip rfl rfl ?_) | (refine awp_seq ?_) | (refine awp_region ?_) | ((refine awpL_call (hbx) rfl rfl rfl rfl rfl rfl rfl ft rfl ?_); rintro v Hout n1 ⟨rfl, rfl, rfl⟩) | (refine awp_block ?_) | (refine awp_exit ?_) | (refine awp_skip ?_) | (refine awp_ret ?_) | (refine awp_cond_t rfl ?_) | (refine awp_cond_f rfl ?_) | (refine awp_quiet TM rfl (by kernel_rfl) ?_) | ((first | refine awpL_split rfl rfl rfl (fun hc => ?_) (fun hc => ?_) | refine awpQ_split rfl rfl rfl (fun hc => ?_) (fun hc => ?_) | refine awp_cond rfl (fun hc => ?_) (fun hc => ?_)) <;> ((try simp at hc) <;> try contradiction)))) <;> try (exfalso; omega))
          exact fin rfl (by repeat' (first | exact trivial | exact Nat.zero_lt_one | omega | refine ⟨?_, ?_⟩)) [(3, 6)] (.tup [.one (.sl 3 1 0 0 0), .one (.bool false)]) [(3, .own 22 0 (.rows false true []))] 4 (⟨rfl, rfl, rfl⟩) rfl ⟨trivial, ⟨rfl, trivial⟩, rfl⟩ rfl
        | some L =>
          rw [hbo] at hbx
          ((repeat' (first | (refine awpL_step TT rfl rfl rfl sd ?_) | (refine awpL_nil ?_) | (refine awpL_skip rfl rfl ?_) | (refine awpQ_step TT rfl rfl rfl rfl sd ?_) | (refine awpQ_nil ?_) | (refine awpQ_skip rfl rfl ?_) | (refine awp_seq ?_) | (refine awp_region ?_) | ((refine awpL_call (hbx) rfl rfl rfl rfl rfl rfl rfl ft rfl ?_); rintro v Hout n1 ⟨l, cap, hlL, rfl, rfl, rfl⟩) | (refine awp_block ?_) | (refine awp_exit ?_) | (refine awp_skip ?_) | (refine awp_ret ?_) | (refine awp_cond_t rfl ?_) | (refine awp_cond_f rfl ?_) | (refine awp_quiet TM rfl (by kernel_rfl) ?_) | ((first | refine awpL_split rfl rfl rfl (fun hc => ?_) (fun hc => ?_) | refine awpQ_split rfl rfl rfl (fun hc => ?_) (fun hc => ?_) | refine awp_cond rfl (fun hc => ?_) (fun hc => ?_)) <;> ((try simp at hc) <;> try contradiction)))) <;> try (exfalso; omega))
          have hbl2 := (box_len (fun k hk => rep_wid hs.1 hk) (List.replicate i (-side)).length (Nat.le_refl _)).1
          have hok : okTo (List.replicate i (-side)) (List.replicate i side) (List.replicate i (-side)).length = true := by
            unfold boxO at hbo
            split at hbo
            · assumption
            · cases hbo
          have hLe : L = boxTo (List.replicate i (-side)) (List.replicate i side) (List.replicate i (-side)).length := by
            unfold boxO at hbo
            rw [if_pos hok] at hbo; cases hbo; rfl
          have hc4 := okTo_cnt hok
          have hll : l.length ≤ 4000 := by rw [rowsX_len hlL, hLe]; omega
          have hrow : ∀ r ∈ l, r.xs.length = i := fun r hr => by
            have h1 : r.xs ∈ L := by rw [← hlL]; exact List.mem_map.2 ⟨r, hr, rfl⟩
            rw [hLe] at h1
            have := box_row _ h1
            rw [this, List.length_replicate]
          refine awp_loop hE (fun x : Nat × Nat => x.1 ≤ l.length) (fun x => l.length - x.1)
            (fun x => [(1, vS 2 1 0 bs.length cb), (3, .one (.ptr 3 3 0 0)), (13, vS 8 1 0 (partL (ptIn a i xs bs) (l.take x.1)).length x.2), (59, vS 6 1 0 l.length cap), (60, vI l.length), (61, vI x.1)])
            (fun x => [(1, .ro (.ints xs)), (2, .ro (.ints bs)), (3, .own 27 1 (.lit [.int a, .int i, .sl 1 1 0 xs.length ca])), (6, .own 22 cap (.rows false true l)), (7, .tok 3 false l), (8, .own 22 x.2 (.rows false true (partL (ptIn a i xs bs) (l.take x.1))))]) 9 [] (0, 0) (Nat.zero_le _) ⟨(by repeat' (first | exact trivial | refine ⟨rfl, ?_⟩ | refine ⟨congrArg some (congrArg vI (by first | omega | (simp; done) | (simp; omega))), ?_⟩ | refine ⟨sl_eqA (by first | omega | (simp; done) | (simp; omega)), ?_⟩)), (by repeat' (first | exact trivial | refine ⟨rfl, ?_⟩)), rfl⟩ ?_
          rintro ⟨j, cap2⟩ hj
          dsimp only at hj
          have hpl := partL_len (f := ptIn a i xs bs) (l := l) (j := j)
          by_cases hjl : j < l.length
          · have hx := getD_row' hjl
            have hxl : (l.getD (0 + (j : Int).toNat) rowD).xs.length ≤ 1099511627776 := by
              rw [hx, hrow _ (List.getElem_mem hjl)]; omega
            have hcol := fun c => d_col (l.getD (0 + (j : Int).toNat) rowD).xs c hxl
            have hmu := fun cv => d_mulI a i (l.getD (0 + (j : Int).toNat) rowD).xs.length 1 xs (l.getD (0 + (j : Int).toNat) rowD).xs ca cv hl hxl
            have hn := partL_next (f := ptIn a i xs bs) hjl
            have hqe : ptIn a i xs bs (l.getD (0 + (j : Int).toNat) rowD).xs = ptIn a i xs bs l[j].xs := by rw [hx]
            cases hm : mulZ a i (l.getD (0 + (j : Int).toNat) rowD).xs.length 1 xs (l.getD (0 + (j : Int).toNat) rowD).xs with
            | none =>
              have hq : ptIn a i xs bs l[j].xs = false := by rw [← hqe]; unfold ptIn; rw [hm]
              rw [hm] at hmu
              rw [hq] at hn
              ((repeat' (first | (refine awpL_step TT rfl rfl rfl sd ?_) | (refine awpL_nil ?_) | (refine awpL_skip rfl rfl ?_) | (refine awpQ_step TT rfl rfl rfl rfl sd ?_) | (refine awpQ_nil ?_) | (refine awpQ_skip rfl rfl ?_) | (refine awp_seq ?_) | (refine awp_region ?_) | (refine awp_block ?_) | (refine awp_exit ?_) | (refine awp_skip ?_) | (refine awp_ret ?_) | (refine awp_cond_t rfl ?_) | (refine awp_cond_f rfl ?_) | ((first | refine awpL_split rfl rfl rfl (fun hc => ?_) (fun hc => ?_) | refine awpQ_split rfl rfl rfl (fun hc => ?_) (fun hc => ?_) | refine awp_cond rfl (fun hc => ?_) (fun hc => ?_)) <;> ((try simp at hc) <;> try contradiction)))) <;> try (exfalso; omega))
              refine awp_held TM [(3, _)] sb rfl (fun ρs => ?_)
              refine awpH_take TT 0 rfl kr kr kr nh rfl rfl rfl rfl sd ?_
              refine awpH_take TT 1 rfl kr kr kr nh rfl rfl rfl rfl sd ?_
              refine awpH_all [2, 7] kr rfl ⟨?_, ?_, trivial⟩
              first | (refine awpHop_step TT 2 rfl rfl rfl rfl sd sb rfl ?_) | ((first | refine awpL_one (hcol _) rfl rfl rfl rfl rfl rfl rfl ft rfl rfl (RowM.out) ?_ | refine awpHop_one _ (hcol _) rfl rfl rfl rfl rfl rfl rfl rfl ft rfl rfl (RowM.out) sb rfl rfl ?_); rintro v b ⟨c3, hc3, rfl, he, -⟩; cases he) | (refine awpHop_call _ (hmu _) rfl rfl rfl rfl rfl rfl rfl rfl ft rfl rfl ?_; rintro v Hout n1 ⟨rfl, rfl, rfl⟩; refine ⟨sb, ?_⟩)
              refine awpH_all [3, 7] kr rfl ⟨?_, ?_, trivial⟩
              first | (refine awpHop_step TT 3 rfl rfl rfl rfl sd sb rfl ?_) | ((first | refine awpL_one (hcol _) rfl rfl rfl rfl rfl rfl rfl ft rfl rfl (RowM.out) ?_ | refine awpHop_one _ (hcol _) rfl rfl rfl rfl rfl rfl rfl rfl ft rfl rfl (RowM.out) sb rfl rfl ?_); rintro v b ⟨c3, hc3, rfl, he, -⟩; cases he) | (refine awpHop_call _ (hmu _) rfl rfl rfl rfl rfl rfl rfl rfl ft rfl rfl ?_; rintro v Hout n1 ⟨rfl, rfl, rfl⟩; refine ⟨sb, ?_⟩)
              refine awpH_take TT 4 rfl kr kr kr nh rfl rfl rfl rfl sd ?_
              refine awpH_take TT 5 rfl kr kr kr nh rfl rfl rfl rfl sd ?_
              refine awpH_take TT 6 rfl kr kr kr nh rfl rfl rfl rfl sd ?_
              refine awpH_all [7] kr rfl ⟨?_, trivial⟩
              first | (refine awpHop_step TT 7 rfl rfl rfl rfl sd sb rfl ?_) | ((first | refine awpL_one (hcol _) rfl rfl rfl rfl rfl rfl rfl ft rfl rfl (RowM.out) ?_ | refine awpHop_one _ (hcol _) rfl rfl rfl rfl rfl rfl rfl rfl ft rfl rfl (RowM.out) sb rfl rfl ?_); rintro v b ⟨c3, hc3, rfl, he, -⟩; cases he) | (refine awpHop_call _ (hmu _) rfl rfl rfl rfl rfl rfl rfl rfl ft rfl rfl ?_; rintro v Hout n1 ⟨rfl, rfl, rfl⟩; refine ⟨sb, ?_⟩)
              refine awpH_all [8] kr rfl ⟨?_, trivial⟩
              first | (refine awpHop_step TT 8 rfl rfl rfl rfl sd sb rfl ?_) | ((first | refine awpL_one (hcol _) rfl rfl rfl rfl rfl rfl rfl ft rfl rfl (RowM.out) ?_ | refine awpHop_one _ (hcol _) rfl rfl rfl rfl rfl rfl rfl rfl ft rfl rfl (RowM.out) sb rfl rfl ?_); rintro v b ⟨c3, hc3, rfl, he, -⟩; cases he) | (refine awpHop_call _ (hmu _) rfl rfl rfl rfl rfl rfl rfl rfl ft rfl rfl ?_; rintro v Hout n1 ⟨rfl, rfl, rfl⟩; refine ⟨sb, ?_⟩)
              refine awpH_take TT 9 rfl kr kr kr nh rfl rfl rfl rfl sd ?_
              refine awpH_done kr ?_
              rotate_left
              first | (refine awpHop_step TT 7 rfl rfl rfl rfl sd sb rfl ?_) | ((first | refine awpL_one (hcol _) rfl rfl rfl rfl rfl rfl rfl ft rfl rfl (RowM.out) ?_ | refine awpHop_one _ (hcol _) rfl rfl rfl rfl rfl rfl rfl rfl ft rfl rfl (RowM.out) sb rfl rfl ?_); rintro v b ⟨c3, hc3, rfl, he, -⟩; cases he) | (refine awpHop_call _ (hmu _) rfl rfl rfl rfl rfl rfl rfl rfl ft rfl rfl ?_; rintro v Hout n1 ⟨rfl, rfl, rfl⟩; refine ⟨sb, ?_⟩)
              refine awpH_all [3] kr rfl ⟨?_, trivial⟩
              first | (refine awpHop_step TT 3 rfl rfl rfl rfl sd sb rfl ?_) | ((first | refine awpL_one (hcol _) rfl rfl rfl rfl rfl rfl rfl ft rfl rfl (RowM.out) ?_ | refine awpHop_one _ (hcol _) rfl rfl rfl rfl rfl rfl rfl rfl ft rfl rfl (RowM.out) sb rfl rfl ?_); rintro v b ⟨c3, hc3, rfl, he, -⟩; cases he) | (refine awpHop_call _ (hmu _) rfl rfl rfl rfl rfl rfl rfl rfl ft rfl rfl ?_; rintro v Hout n1 ⟨rfl, rfl, rfl⟩; refine ⟨sb, ?_⟩)
              refine awpH_take TT 4 rfl kr kr kr nh rfl rfl rfl rfl sd ?_
              refine awpH_take TT 5 rfl kr kr kr nh rfl rfl rfl rfl sd ?_
              refine awpH_take TT 6 rfl kr kr kr nh rfl rfl rfl rfl sd ?_
              refine awpH_all [8] kr rfl ⟨?_, trivial⟩
              first | (refine awpHop_step TT 8 rfl rfl rfl rfl sd sb rfl ?_) | ((first | refine awpL_one (hcol _) rfl rfl rfl rfl rfl rfl rfl ft rfl rfl (RowM.out) ?_ | refine awpHop_one _ (hcol _) rfl rfl rfl rfl rfl rfl rfl rfl ft rfl rfl (RowM.out) sb rfl rfl ?_); rintro v b ⟨c3, hc3, rfl, he, -⟩; cases he) | (refine awpHop_call _ (hmu _) rfl rfl rfl rfl rfl rfl rfl rfl ft rfl rfl ?_; rintro v Hout n1 ⟨rfl, rfl, rfl⟩; refine ⟨sb, ?_⟩)
              refine awpH_take TT 9 rfl kr kr kr nh rfl rfl rfl rfl sd ?_
              refine awpH_done kr ?_
              rotate_left
              first | (refine awpHop_step TT 7 rfl rfl rfl rfl sd sb rfl ?_) | ((first | refine awpL_one (hcol _) rfl rfl rfl rfl rfl rfl rfl ft rfl rfl (RowM.out) ?_ | refine awpHop_one _ (hcol _) rfl rfl rfl rfl rfl rfl rfl rfl ft rfl rfl (RowM.out) sb rfl rfl ?_); rintro v b ⟨c3, hc3, rfl, he, -⟩; cases he) | (refine awpHop_call _ (hmu _) rfl rfl rfl rfl rfl rfl rfl rfl ft rfl rfl ?_; rintro v Hout n1 ⟨rfl, rfl, rfl⟩; refine ⟨sb, ?_⟩)
              refine awpH_all [2] kr rfl ⟨?_, trivial⟩
              first | (refine awpHop_step TT 2 rfl rfl rfl rfl sd sb rfl ?_) | ((first | refine awpL_one (hcol _) rfl rfl rfl rfl rfl rfl rfl ft rfl rfl (RowM.out) ?_ | refine awpHop_one _ (hcol _) rfl rfl rfl rfl rfl rfl rfl rfl ft rfl rfl (RowM.out) sb rfl rfl ?_); rintro v b ⟨c3, hc3, rfl, he, -⟩; cases he) | (refine awpHop_call _ (hmu _) rfl rfl rfl rfl rfl rfl rfl rfl ft rfl rfl ?_; rintro v Hout n1 ⟨rfl, rfl, rfl⟩; refine ⟨sb, ?_⟩)
              refine awpH_all [3] kr rfl ⟨?_, trivial⟩
              first | (refine awpHop_step TT 3 rfl rfl rfl rfl sd sb rfl ?_) | ((first | refine awpL_one (hcol _) rfl rfl rfl rfl rfl rfl rfl ft rfl rfl (RowM.out) ?_ | refine awpHop_one _ (hcol _) rfl rfl rfl rfl rfl rfl rfl rfl ft rfl rfl (RowM.out) sb rfl rfl ?_); rintro v b ⟨c3, hc3, rfl, he, -⟩; cases he) | (refine awpHop_call _ (hmu _) rfl rfl rfl rfl rfl rfl rfl rfl ft rfl rfl ?_; rintro v Hout n1 ⟨rfl, rfl, rfl⟩; refine ⟨sb, ?_⟩)
              refine awpH_take TT 4 rfl kr kr kr nh rfl rfl rfl rfl sd ?_
              refine awpH_take TT 5 rfl kr kr kr nh rfl rfl rfl rfl sd ?_
              refine awpH_take TT 6 rfl kr kr kr nh rfl rfl rfl rfl sd ?_
              refine awpH_all [8] kr rfl ⟨?_, trivial⟩
              first | (refine awpHop_step TT 8 rfl rfl rfl rfl sd sb rfl ?_) | ((first | refine awpL_one (hcol _) rfl rfl rfl rfl rfl rfl rfl ft rfl rfl (RowM.out) ?_ | refine awpHop_one _ (hcol _) rfl rfl rfl rfl rfl rfl rfl rfl ft rfl rfl (RowM.out) sb rfl rfl ?_); rintro v b ⟨c3, hc3, rfl, he, -⟩; cases he) | (refine awpHop_call _ (hmu _) rfl rfl rfl rfl rfl rfl rfl rfl ft rfl rfl ?_; rintro v Hout n1 ⟨rfl, rfl, rfl⟩; refine ⟨sb, ?_⟩)
              refine awpH_take TT 9 rfl kr kr kr nh rfl rfl rfl rfl sd ?_
              refine awpH_done kr ?_
              rotate_left
              all_goals ((repeat' (first | (refine awpL_step TT rfl rfl rfl sd ?_) | (refine awpL_nil ?_) | (refine awpL_skip rfl rfl ?_) | (refine awpQ_step TT rfl rfl rfl rfl sd ?_) | (refine awpQ_nil ?_) | (refine awpQ_skip rfl rfl ?_) | (refine awp_seq ?_) | (refine awp_region ?_) | (refine awp_block ?_) | (refine awp_exit ?_) | (refine awp_skip ?_) | (refine awp_ret ?_) | (refine awp_cond_t rfl ?_) | (refine awp_cond_f rfl ?_) | (refine awp_quiet TM rfl (by kernel_rfl) ?_) | ((first | refine awpL_split rfl rfl rfl (fun hc => ?_) (fun hc => ?_) | refine awpQ_split rfl rfl rfl (fun hc => ?_) (fun hc => ?_) | refine awp_cond rfl (fun hc => ?_) (fun hc => ?_)) <;> ((try simp at hc) <;> try contradiction)))) <;> try (exfalso; omega))
              all_goals
                refine awp_loop hE (fun _ : Nat => True) (fun k => k)
                  (fun k => [(1, vS 2 1 0 bs.length cb), (3, .one (.ptr 3 3 0 0)), (13, vS 8 1 0 (partL (ptIn a i xs bs) (l.take j)).length cap2), (17, vB false), (18, vI 0), (59, vS 6 1 0 l.length cap), (60, vI l.length), (61, vI j)])
                  (fun k => [(1, .ro (.ints xs)), (2, .ro (.ints bs)), (3, .own 27 1 (.lit [.int a, .int i, .sl 1 1 0 xs.length ca])), (6, .own 22 cap (.rows false true l)), (7, .tok 3 false l), (8, .own 22 cap2 (.rows false true (partL (ptIn a i xs bs) (l.take j))))]) 9 [] 0 trivial ⟨(by repeat' (first | exact trivial | refine ⟨rfl, ?_⟩ | refine ⟨congrArg some (congrArg vI (by first | omega | (simp; done) | (simp; omega))), ?_⟩ | refine ⟨sl_eqA (by first | omega | (simp; done) | (simp; omega)), ?_⟩)), (by repeat' (first | exact trivial | refine ⟨rfl, ?_⟩)), rfl⟩ ?_
                rintro k -
                ((repeat' (first | (refine awpL_step TT rfl rfl rfl sd ?_) | (refine awpL_nil ?_) | (refine awpL_skip rfl rfl ?_) | (refine awpQ_step TT rfl rfl rfl rfl sd ?_) | (refine awpQ_nil ?_) | (refine awpQ_skip rfl rfl ?_) | (refine awp_seq ?_) | (refine awp_region ?_) | (refine awp_block ?_) | (refine awp_exit ?_) | (refine awp_skip ?_) | (refine awp_ret ?_) | (refine awp_cond_t rfl ?_) | (refine awp_cond_f rfl ?_) | (refine awp_quiet TM rfl (by kernel_rfl) ?_) | ((first | refine awpL_split rfl rfl rfl (fun hc => ?_) (fun hc => ?_) | refine awpQ_split rfl rfl rfl (fun hc => ?_) (fun hc => ?_) | refine awp_cond rfl (fun hc => ?_) (fun hc => ?_)) <;> ((try simp at hc) <;> try contradiction)))) <;> try (exfalso; omega))
                exact ⟨[], (j + 1, cap2), hjl, (by first | omega | (dsimp only; omega)), ⟨⟨rfl, rfl, sl_eqA (by rw [hn]; simp), rfl, rfl, congrArg some (congrArg vI (by omega)), trivial⟩, ⟨rfl, rfl, rfl, rfl, rfl, own_rowsA (by rw [hn]; simp), trivial⟩, rfl⟩⟩
            | some p =>
              have hpa : p.length = a := by simpa using mulZ_len hm
              have hqp : ptIn a i xs bs l[j].xs = inTo p bs p.length := by rw [← hqe]; unfold ptIn; rw [hm]
              rw [hm] at hmu
              ((repeat' (first | (refine awpL_step TT rfl rfl rfl sd ?_) | (refine awpL_nil ?_) | (refine awpL_skip rfl rfl ?_) | (refine awpQ_step TT rfl rfl rfl rfl sd ?_) | (refine awpQ_nil ?_) | (refine awpQ_skip rfl rfl ?_) | (refine awp_seq ?_) | (refine awp_region ?_) | (refine awp_block ?_) | (refine awp_exit ?_) | (refine awp_skip ?_) | (refine awp_ret ?_) | (refine awp_cond_t rfl ?_) | (refine awp_cond_f rfl ?_) | ((first | refine awpL_split rfl rfl rfl (fun hc => ?_) (fun hc => ?_) | refine awpQ_split rfl rfl rfl (fun hc => ?_) (fun hc => ?_) | refine awp_cond rfl (fun hc => ?_) (fun hc => ?_)) <;> ((try simp at hc) <;> try contradiction)))) <;> try (exfalso; omega))
              refine awp_held TM [(3, _)] sb rfl (fun ρs => ?_)
              refine awpH_take TT 0 rfl kr kr kr nh rfl rfl rfl rfl sd ?_
              refine awpH_take TT 1 rfl kr kr kr nh rfl rfl rfl rfl sd ?_
              refine awpH_all [2, 7] kr rfl ⟨?_, ?_, trivial⟩
              first | (refine awpHop_step TT 2 rfl rfl rfl rfl sd sb rfl ?_) | ((first | refine awpL_one (hcol _) rfl rfl rfl rfl rfl rfl rfl ft rfl rfl (RowM.out) ?_ | refine awpHop_one _ (hcol _) rfl rfl rfl rfl rfl rfl rfl rfl ft rfl rfl (RowM.out) sb rfl rfl ?_); rintro v b ⟨c3, hc3, rfl, he, -⟩; cases he) | (refine awpHop_call _ (hmu _) rfl rfl rfl rfl rfl rfl rfl rfl ft rfl rfl ?_; rintro v Hout n1 ⟨c4, hc4', rfl, rfl, rfl⟩; refine ⟨sb, ?_⟩)
              refine awpH_all [3, 7] kr rfl ⟨?_, ?_, trivial⟩
              first | (refine awpHop_step TT 3 rfl rfl rfl rfl sd sb rfl ?_) | ((first | refine awpL_one (hcol _) rfl rfl rfl rfl rfl rfl rfl ft rfl rfl (RowM.out) ?_ | refine awpHop_one _ (hcol _) rfl rfl rfl rfl rfl rfl rfl rfl ft rfl rfl (RowM.out) sb rfl rfl ?_); rintro v b ⟨c3, hc3, rfl, he, -⟩; cases he) | (refine awpHop_call _ (hmu _) rfl rfl rfl rfl rfl rfl rfl rfl ft rfl rfl ?_; rintro v Hout n1 ⟨c4, hc4', rfl, rfl, rfl⟩; refine ⟨sb, ?_⟩)
              refine awpH_take TT 4 rfl kr kr kr nh rfl rfl rfl rfl sd ?_
              refine awpH_take TT 5 rfl kr kr kr nh rfl rfl rfl rfl sd ?_
              refine awpH_take TT 6 rfl kr kr kr nh rfl rfl rfl rfl sd ?_
              refine awpH_all [7] kr rfl ⟨?_, trivial⟩
              first | (refine awpHop_step TT 7 rfl rfl rfl rfl sd sb rfl ?_) | ((first | refine awpL_one (hcol _) rfl rfl rfl rfl rfl rfl rfl ft rfl rfl (RowM.out) ?_ | refine awpHop_one _ (hcol _) rfl rfl rfl rfl rfl rfl rfl rfl ft rfl rfl (RowM.out) sb rfl rfl ?_); rintro v b ⟨c3, hc3, rfl, he, -⟩; cases he) | (refine awpHop_call _ (hmu _) rfl rfl rfl rfl rfl rfl rfl rfl ft rfl rfl ?_; rintro v Hout n1 ⟨c4, hc4', rfl, rfl, rfl⟩; refine ⟨sb, ?_⟩)
              refine awpH_all [8] kr rfl ⟨?_, trivial⟩
              first | (refine awpHop_step TT 8 rfl rfl rfl rfl sd sb rfl ?_) | ((first | refine awpL_one (hcol _) rfl rfl rfl rfl rfl rfl rfl ft rfl rfl (RowM.out) ?_ | refine awpHop_one _ (hcol _) rfl rfl rfl rfl rfl rfl rfl rfl ft rfl rfl (RowM.out) sb rfl rfl ?_); rintro v b ⟨c3, hc3, rfl, he, -⟩; cases he) | (refine awpHop_call _ (hmu _) rfl rfl rfl rfl rfl rfl rfl rfl ft rfl rfl ?_; rintro v Hout n1 ⟨c4, hc4', rfl, rfl, rfl⟩; refine ⟨sb, ?_⟩)
              refine awpH_take TT 9 rfl kr kr kr nh rfl rfl rfl rfl sd ?_
              refine awpH_done kr ?_
              rotate_left
              first | (refine awpHop_step TT 7 rfl rfl rfl rfl sd sb rfl ?_) | ((first | refine awpL_one (hcol _) rfl rfl rfl rfl rfl rfl rfl ft rfl rfl (RowM.out) ?_ | refine awpHop_one _ (hcol _) rfl rfl rfl rfl rfl rfl rfl rfl ft rfl rfl (RowM.out) sb rfl rfl ?_); rintro v b ⟨c3, hc3, rfl, he, -⟩; cases he) | (refine awpHop_call _ (hmu _) rfl rfl rfl rfl rfl rfl rfl rfl ft rfl rfl ?_; rintro v Hout n1 ⟨c4, hc4', rfl, rfl, rfl⟩; refine ⟨sb, ?_⟩)
              refine awpH_all [3] kr rfl ⟨?_, trivial⟩
              first | (refine awpHop_step TT 3 rfl rfl rfl rfl sd sb rfl ?_) | ((first | refine awpL_one (hcol _) rfl rfl rfl rfl rfl rfl rfl ft rfl rfl (RowM.out) ?_ | refine awpHop_one _ (hcol _) rfl rfl rfl rfl rfl rfl rfl rfl ft rfl rfl (RowM.out) sb rfl rfl ?_); rintro v b ⟨c3, hc3, rfl, he, -⟩; cases he) | (refine awpHop_call _ (hmu _) rfl rfl rfl rfl rfl rfl rfl rfl ft rfl rfl ?_; rintro v Hout n1 ⟨c4, hc4', rfl, rfl, rfl⟩; refine ⟨sb, ?_⟩)
              refine awpH_take TT 4 rfl kr kr kr nh rfl rfl rfl rfl sd ?_
              refine awpH_take TT 5 rfl kr kr kr nh rfl rfl rfl rfl sd ?_
              refine awpH_take TT 6 rfl kr kr kr nh rfl rfl rfl rfl sd ?_
              refine awpH_all [8] kr rfl ⟨?_, trivial⟩
              first | (refine awpHop_step TT 8 rfl rfl rfl rfl sd sb rfl ?_) | ((first | refine awpL_one (hcol _) rfl rfl rfl rfl rfl rfl rfl ft rfl rfl (RowM.out) ?_ | refine awpHop_one _ (hcol _) rfl rfl rfl rfl rfl rfl rfl rfl ft rfl rfl (RowM.out) sb rfl rfl ?_); rintro v b ⟨c3, hc3, rfl, he, -⟩; cases he) | (refine awpHop_call _ (hmu _) rfl rfl rfl rfl rfl rfl rfl rfl ft rfl rfl ?_; rintro v Hout n1 ⟨c4, hc4', rfl, rfl, rfl⟩; refine ⟨sb, ?_⟩)
              refine awpH_take TT 9 rfl kr kr kr nh rfl rfl rfl rfl sd ?_
              refine awpH_done kr ?_
              rotate_left
              first | (refine awpHop_step TT 7 rfl rfl rfl rfl sd sb rfl ?_) | ((first | refine awpL_one (hcol _) rfl rfl rfl rfl rfl rfl rfl ft rfl rfl (RowM.out) ?_ | refine awpHop_one _ (hcol _) rfl rfl rfl rfl rfl rfl rfl rfl ft rfl rfl (RowM.out) sb rfl rfl ?_); rintro v b ⟨c3, hc3, rfl, he, -⟩; cases he) | (refine awpHop_call _ (hmu _) rfl rfl rfl rfl rfl rfl rfl rfl ft rfl rfl ?_; rintro v Hout n1 ⟨c4, hc4', rfl, rfl, rfl⟩; refine ⟨sb, ?_⟩)
              refine awpH_all [2] kr rfl ⟨?_, trivial⟩
              first | (refine awpHop_step TT 2 rfl rfl rfl rfl sd sb rfl ?_) | ((first | refine awpL_one (hcol _) rfl rfl rfl rfl rfl rfl rfl ft rfl rfl (RowM.out) ?_ | refine awpHop_one _ (hcol _) rfl rfl rfl rfl rfl rfl rfl rfl ft rfl rfl (RowM.out) sb rfl rfl ?_); rintro v b ⟨c3, hc3, rfl, he, -⟩; cases he) | (refine awpHop_call _ (hmu _) rfl rfl rfl rfl rfl rfl rfl rfl ft rfl rfl ?_; rintro v Hout n1 ⟨c4, hc4', rfl, rfl, rfl⟩; refine ⟨sb, ?_⟩)
              refine awpH_all [3] kr rfl ⟨?_, trivial⟩
              first | (refine awpHop_step TT 3 rfl rfl rfl rfl sd sb rfl ?_) | ((first | refine awpL_one (hcol _) rfl rfl rfl rfl rfl rfl rfl ft rfl rfl (RowM.out) ?_ | refine awpHop_one _ (hcol _) rfl rfl rfl rfl rfl rfl rfl rfl ft rfl rfl (RowM.out) sb rfl rfl ?_); rintro v b ⟨c3, hc3, rfl, he, -⟩; cases he) | (refine awpHop_call _ (hmu _) rfl rfl rfl rfl rfl rfl rfl rfl ft rfl rfl ?_; rintro v Hout n1 ⟨c4, hc4', rfl, rfl, rfl⟩; refine ⟨sb, ?_⟩)
              refine awpH_take TT 4 rfl kr kr kr nh rfl rfl rfl rfl sd ?_
              refine awpH_take TT 5 rfl kr kr kr nh rfl rfl rfl rfl sd ?_
              refine awpH_take TT 6 rfl kr kr kr nh rfl rfl rfl rfl sd ?_
              refine awpH_all [8] kr rfl ⟨?_, trivial⟩
              first | (refine awpHop_step TT 8 rfl rfl rfl rfl sd sb rfl ?_) | ((first | refine awpL_one (hcol _) rfl rfl rfl rfl rfl rfl rfl ft rfl rfl (RowM.out) ?_ | refine awpHop_one _ (hcol _) rfl rfl rfl rfl rfl rfl rfl rfl ft rfl rfl (RowM.out) sb rfl rfl ?_); rintro v b ⟨c3, hc3, rfl, he, -⟩; cases he) | (refine awpHop_call _ (hmu _) rfl rfl rfl rfl rfl rfl rfl rfl ft rfl rfl ?_; rintro v Hout n1 ⟨c4, hc4', rfl, rfl, rfl⟩; refine ⟨sb, ?_⟩)
              refine awpH_take TT 9 rfl kr kr kr nh rfl rfl rfl rfl sd ?_
              refine awpH_done kr ?_
              rotate_left
              all_goals ((repeat' (first | (refine awpL_step TT rfl rfl rfl sd ?_) | (refine awpL_nil ?_) | (refine awpL_skip rfl rfl ?_) | (refine awpQ_step TT rfl rfl rfl rfl sd ?_) | (refine awpQ_nil ?_) | (refine awpQ_skip rfl rfl ?_) | (refine awp_seq ?_) | (refine awp_region ?_) | (refine awp_block ?_) | (refine awp_exit ?_) | (refine awp_skip ?_) | (refine awp_ret ?_) | (refine awp_cond_t rfl ?_) | (refine awp_cond_f rfl ?_) | (refine awp_quiet TM rfl (by kernel_rfl) ?_) | ((first | refine awpL_split rfl rfl rfl (fun hc => ?_) (fun hc => ?_) | refine awpQ_split rfl rfl rfl (fun hc => ?_) (fun hc => ?_) | refine awp_cond rfl (fun hc => ?_) (fun hc => ?_)) <;> ((try simp at hc) <;> try contradiction)))) <;> try (exfalso; omega))
              · refine awp_loop hE (fun x : Nat × Bool => x.1 ≤ p.length ∧ x.2 = inTo p bs x.1) (fun x => p.length - x.1) (fun x => [(1, vS 2 1 0 bs.length cb), (3, .one (.ptr 3 3 0 0)), (13, vS 8 1 0 (partL (ptIn a i xs bs) (l.take j)).length cap2), (15, vS 9 1 0 (l.getD (0 + (j : Int).toNat) rowD).xs.length (l.getD (0 + (j : Int).toNat) rowD).cap), (16, .one (.ptr 10 3 0 0)), (17, vB x.2), (18, vI x.1), (59, vS 6 1 0 l.length cap), (60, vI l.length), (61, vI j)]) (fun x => [(1, .ro (.ints xs)), (2, .ro (.ints bs)), (3, .own 27 1 (.lit [.int a, .int i, .sl 1 1 0 xs.length ca])), (6, .own 22 cap (.rows false true l)), (7, .tok 3 false l), (8, .own 22 cap2 (.rows false true (partL (ptIn a i xs bs) (l.take j)))), (9, .al (l.getD (0 + (j : Int).toNat) rowD).a (.ints (l.getD (0 + (j : Int).toNat) rowD).xs)), (10, .own 27 1 (.lit [.int a, .int 1, .sl 11 1 0 p.length c4])), (11, .own 3 c4 (.ints p))]) 12 [(10, 12)] (0, true) ⟨Nat.zero_le _, rfl⟩ ⟨(by repeat' (first | exact trivial | refine ⟨rfl, ?_⟩ | refine ⟨congrArg some (congrArg vI (by first | omega | (simp; done) | (simp; omega))), ?_⟩ | refine ⟨sl_eqA (by first | omega | (simp; done) | (simp; omega)), ?_⟩)), (by repeat' (first | exact trivial | refine ⟨rfl, ?_⟩)), rfl⟩ ?_
                rintro ⟨q, is⟩ ⟨hq, hi2⟩
                dsimp only at hq hi2
                have hnx := inTo_next (p := p) (bs := bs) (i := q)
                have g1 : p.getD q 0 = p[q]?.getD 0 := by simp
                have g2 : bs.getD q 0 = bs[q]?.getD 0 := by simp
                by_cases hqp2 : q < p.length
                · have hqb : q < bs.length := by omega
                  cases is with
                  | true =>
                    ((repeat' (first | (refine awpL_step TT rfl rfl rfl sd ?_) | (refine awpL_nil ?_) | (refine awpL_skip rfl rfl ?_) | (refine awpQ_step TT rfl rfl rfl rfl sd ?_) | (refine awpQ_nil ?_) | (refine awpQ_skip rfl rfl ?_) | (refine awp_seq ?_) | (refine awp_region ?_) | (refine awp_block ?_) | (refine awp_exit ?_) | (refine awp_skip ?_) | (refine awp_ret ?_) | (refine awp_cond_t rfl ?_) | (refine awp_cond_f rfl ?_) | (refine awp_quiet TM rfl (by kernel_rfl) ?_) | ((first | refine awpL_split rfl rfl rfl (fun hc => ?_) (fun hc => ?_) | refine awpQ_split rfl rfl rfl (fun hc => ?_) (fun hc => ?_) | refine awp_cond rfl (fun hc => ?_) (fun hc => ?_)) <;> ((try simp at hc) <;> try contradiction)))) <;> try (exfalso; omega))
                    exact ⟨[], (q + 1, decide (p.getD (0 + (q : Int).toNat) 0 ≤ bs.getD (0 + (q : Int).toNat) 0)), ⟨hqp2, by dsimp only; rw [hnx, ← hi2, Nat.zero_add, Int.toNat_natCast, Bool.true_and]⟩, (by first | omega | (dsimp only; omega)), ⟨(by repeat' (first | exact trivial | refine ⟨rfl, ?_⟩ | refine ⟨congrArg some (congrArg vI (by first | omega | (simp; done) | (simp; omega))), ?_⟩ | refine ⟨sl_eqA (by first | omega | (simp; done) | (simp; omega)), ?_⟩)), (by repeat' (first | exact trivial | refine ⟨rfl, ?_⟩)), rfl⟩⟩
                  | false =>
                    have hq2 : ptIn a i xs bs l[j].xs = false := by rw [hqp, inTo_false hi2.symm (by omega)]
                    rw [hq2] at hn
                    ((repeat' (first | (refine awpL_step TT rfl rfl rfl sd ?_) | (refine awpL_nil ?_) | (refine awpL_skip rfl rfl ?_) | (refine awpQ_step TT rfl rfl rfl rfl sd ?_) | (refine awpQ_nil ?_) | (refine awpQ_skip rfl rfl ?_) | (refine awp_seq ?_) | (refine awp_region ?_) | (refine awp_block ?_) | (refine awp_exit ?_) | (refine awp_skip ?_) | (refine awp_ret ?_) | (refine awp_cond_t rfl ?_) | (refine awp_cond_f rfl ?_) | (refine awp_quiet TM rfl (by kernel_rfl) ?_) | ((first | refine awpL_split rfl rfl rfl (fun hc => ?_) (fun hc => ?_) | refine awpQ_split rfl rfl rfl (fun hc => ?_) (fun hc => ?_) | refine awp_cond rfl (fun hc => ?_) (fun hc => ?_)) <;> ((try simp at hc) <;> try contradiction)))) <;> try (exfalso; omega))
                    exact ⟨[], (j + 1, cap2), hjl, (by first | omega | (dsimp only; omega)), ⟨⟨rfl, rfl, sl_eqA (by rw [hn]; simp), rfl, rfl, congrArg some (congrArg vI (by omega)), trivial⟩, ⟨rfl, rfl, rfl, rfl, rfl, own_rowsA (by rw [hn]; simp), trivial⟩, rfl⟩⟩
                · obtain rfl : q = p.length := by omega
                  rw [hqp, ← hi2] at hn
                  cases is with
                  | true =>
                    ((repeat' (first | (refine awpL_step TT rfl rfl rfl sd ?_) | (refine awpL_nil ?_) | (refine awpL_skip rfl rfl ?_) | (refine awpQ_step TT rfl rfl rfl rfl sd ?_) | (refine awpQ_nil ?_) | (refine awpQ_skip rfl rfl ?_) | (refine awp_seq ?_) | (refine awp_region ?_) | (first | (refine awpL_append TT rfl rfl rfl rfl rfl sd ?_; intro cap hcap) | (refine awpHop_append TT _ rfl rfl rfl rfl rfl rfl sd sb rfl rfl ?_; intro cap hcap)) | (refine awp_block ?_) | (refine awp_exit ?_) | (refine awp_skip ?_) | (refine awp_ret ?_) | (refine awp_cond_t rfl ?_) | (refine awp_cond_f rfl ?_) | (refine awp_quiet TM rfl (by kernel_rfl) ?_) | ((first | refine awpL_split rfl rfl rfl (fun hc => ?_) (fun hc => ?_) | refine awpQ_split rfl rfl rfl (fun hc => ?_) (fun hc => ?_) | refine awp_cond rfl (fun hc => ?_) (fun hc => ?_)) <;> ((try simp at hc) <;> try contradiction)))) <;> try (exfalso; omega))
                    exact ⟨[(8, 13)], (j + 1, _), hjl, (by first | omega | (dsimp only; omega)), ⟨⟨rfl, rfl, sl_eqA (by rw [hn]; simp), rfl, rfl, congrArg some (congrArg vI (by omega)), trivial⟩, ⟨rfl, rfl, rfl, rfl, rfl, own_rowsA (by rw [hn, ← hx]; rfl), trivial⟩, rfl⟩⟩
                  | false =>
                    ((repeat' (first | (refine awpL_step TT rfl rfl rfl sd ?_) | (refine awpL_nil ?_) | (refine awpL_skip rfl rfl ?_) | (refine awpQ_step TT rfl rfl rfl rfl sd ?_) | (refine awpQ_nil ?_) | (refine awpQ_skip rfl rfl ?_) | (refine awp_seq ?_) | (refine awp_region ?_) | (refine awp_block ?_) | (refine awp_exit ?_) | (refine awp_skip ?_) | (refine awp_ret ?_) | (refine awp_cond_t rfl ?_) | (refine awp_cond_f rfl ?_) | (refine awp_quiet TM rfl (by kernel_rfl) ?_) | ((first | refine awpL_split rfl rfl rfl (fun hc => ?_) (fun hc => ?_) | refine awpQ_split rfl rfl rfl (fun hc => ?_) (fun hc => ?_) | refine awp_cond rfl (fun hc => ?_) (fun hc => ?_)) <;> ((try simp at hc) <;> try contradiction)))) <;> try (exfalso; omega))
                    exact ⟨[], (j + 1, cap2), hjl, (by first | omega | (dsimp only; omega)), ⟨⟨rfl, rfl, sl_eqA (by rw [hn]; simp), rfl, rfl, congrArg some (congrArg vI (by omega)), trivial⟩, ⟨rfl, rfl, rfl, rfl, rfl, own_rowsA (by rw [hn]; simp), trivial⟩, rfl⟩⟩
              · refine awp_loop hE (fun x : Nat × Bool => x.1 ≤ p.length ∧ x.2 = inTo p bs x.1) (fun x => p.length - x.1) (fun x => [(1, vS 2 1 0 bs.length cb), (3, .one (.ptr 3 3 0 0)), (13, vS 8 1 0 (partL (ptIn a i xs bs) (l.take j)).length cap2), (15, vS 9 1 0 (l.getD (0 + (j : Int).toNat) rowD).xs.length (l.getD (0 + (j : Int).toNat) rowD).cap), (16, .one (.ptr 10 3 0 0)), (17, vB x.2), (18, vI x.1), (59, vS 6 1 0 l.length cap), (60, vI l.length), (61, vI j)]) (fun x => [(1, .ro (.ints xs)), (2, .ro (.ints bs)), (3, .own 27 1 (.lit [.int a, .int i, .sl 1 1 0 xs.length ca])), (6, .own 22 cap (.rows false true l)), (7, .tok 3 false l), (8, .own 22 cap2 (.rows false true (partL (ptIn a i xs bs) (l.take j)))), (9, .al (l.getD (0 + (j : Int).toNat) rowD).a (.ints (l.getD (0 + (j : Int).toNat) rowD).xs)), (10, .own 27 1 (.lit [.int a, .int 1, .sl 11 1 0 p.length c4])), (11, .own 3 c4 (.ints p))]) 12 [(10, 11), (11, 12)] (0, true) ⟨Nat.zero_le _, rfl⟩ ⟨(by repeat' (first | exact trivial | refine ⟨rfl, ?_⟩ | refine ⟨congrArg some (congrArg vI (by first | omega | (simp; done) | (simp; omega))), ?_⟩ | refine ⟨sl_eqA (by first | omega | (simp; done) | (simp; omega)), ?_⟩)), (by repeat' (first | exact trivial | refine ⟨rfl, ?_⟩)), rfl⟩ ?_
                rintro ⟨q, is⟩ ⟨hq, hi2⟩
                dsimp only at hq hi2
                have hnx := inTo_next (p := p) (bs := bs) (i := q)
                have g1 : p.getD q 0 = p[q]?.getD 0 := by simp
                have g2 : bs.getD q 0 = bs[q]?.getD 0 := by simp
                by_cases hqp2 : q < p.length
                · have hqb : q < bs.length := by omega
                  cases is with
                  | true =>
                    ((repeat' (first | (refine awpL_step TT rfl rfl rfl sd ?_) | (refine awpL_nil ?_) | (refine awpL_skip rfl rfl ?_) | (refine awpQ_step TT rfl rfl rfl rfl sd ?_) | (refine awpQ_nil ?_) | (refine awpQ_skip rfl rfl ?_) | (refine awp_seq ?_) | (refine awp_region ?_) | (refine awp_block ?_) | (refine awp_exit ?_) | (refine awp_skip ?_) | (refine awp_ret ?_) | (refine awp_cond_t rfl ?_) | (refine awp_cond_f rfl ?_) | (refine awp_quiet TM rfl (by kernel_rfl) ?_) | ((first | refine awpL_split rfl rfl rfl (fun hc => ?_) (fun hc => ?_) | refine awpQ_split rfl rfl rfl (fun hc => ?_) (fun hc => ?_) | refine awp_cond rfl (fun hc => ?_) (fun hc => ?_)) <;> ((try simp at hc) <;> try contradiction)))) <;> try (exfalso; omega))
                    exact ⟨[], (q + 1, decide (p.getD (0 + (q : Int).toNat) 0 ≤ bs.getD (0 + (q : Int).toNat) 0)), ⟨hqp2, by dsimp only; rw [hnx, ← hi2, Nat.zero_add, Int.toNat_natCast, Bool.true_and]⟩, (by first | omega | (dsimp only; omega)), ⟨(by repeat' (first | exact trivial | refine ⟨rfl, ?_⟩ | refine ⟨congrArg some (congrArg vI (by first | omega | (simp; done) | (simp; omega))), ?_⟩ | refine ⟨sl_eqA (by first | omega | (simp; done) | (simp; omega)), ?_⟩)), (by repeat' (first | exact trivial | refine ⟨rfl, ?_⟩)), rfl⟩⟩
                  | false =>
                    have hq2 : ptIn a i xs bs l[j].xs = false := by rw [hqp, inTo_false hi2.symm (by omega)]
                    rw [hq2] at hn
                    ((repeat' (first | (refine awpL_step TT rfl rfl rfl sd ?_) | (refine awpL_nil ?_) | (refine awpL_skip rfl rfl ?_) | (refine awpQ_step TT rfl rfl rfl rfl sd ?_) | (refine awpQ_nil ?_) | (refine awpQ_skip rfl rfl ?_) | (refine awp_seq ?_) | (refine awp_region ?_) | (refine awp_block ?_) | (refine awp_exit ?_) | (refine awp_skip ?_) | (refine awp_ret ?_) | (refine awp_cond_t rfl ?_) | (refine awp_cond_f rfl ?_) | (refine awp_quiet TM rfl (by kernel_rfl) ?_) | ((first | refine awpL_split rfl rfl rfl (fun hc => ?_) (fun hc => ?_) | refine awpQ_split rfl rfl rfl (fun hc => ?_) (fun hc => ?_) | refine awp_cond rfl (fun hc => ?_) (fun hc => ?_)) <;> ((try simp at hc) <;> try contradiction)))) <;> try (exfalso; omega))
                    exact ⟨[], (j + 1, cap2), hjl, (by first | omega | (dsimp only; omega)), ⟨⟨rfl, rfl, sl_eqA (by rw [hn]; simp), rfl, rfl, congrArg some (congrArg vI (by omega)), trivial⟩, ⟨rfl, rfl, rfl, rfl, rfl, own_rowsA (by rw [hn]; simp), trivial⟩, rfl⟩⟩
                · obtain rfl : q = p.length := by omega
                  rw [hqp, ← hi2] at hn
                  cases is with
                  | true =>
                    ((repeat' (first | (refine awpL_step TT rfl rfl rfl sd ?_) | (refine awpL_nil ?_) | (refine awpL_skip rfl rfl ?_) | (refine awpQ_step TT rfl rfl rfl rfl sd ?_) | (refine awpQ_nil ?_) | (refine awpQ_skip rfl rfl ?_) | (refine awp_seq ?_) | (refine awp_region ?_) | (first | (refine awpL_append TT rfl rfl rfl rfl rfl sd ?_; intro cap hcap) | (refine awpHop_append TT _ rfl rfl rfl rfl rfl rfl sd sb rfl rfl ?_; intro cap hcap)) | (refine awp_block ?_) | (refine awp_exit ?_) | (refine awp_skip ?_) | (refine awp_ret ?_) | (refine awp_cond_t rfl ?_) | (refine awp_cond_f rfl ?_) | (refine awp_quiet TM rfl (by kernel_rfl) ?_) | ((first | refine awpL_split rfl rfl rfl (fun hc => ?_) (fun hc => ?_) | refine awpQ_split rfl rfl rfl (fun hc => ?_) (fun hc => ?_) | refine awp_cond rfl (fun hc => ?_) (fun hc => ?_)) <;> ((try simp at hc) <;> try contradiction)))) <;> try (exfalso; omega))
                    exact ⟨[(8, 13)], (j + 1, _), hjl, (by first | omega | (dsimp only; omega)), ⟨⟨rfl, rfl, sl_eqA (by rw [hn]; simp), rfl, rfl, congrArg some (congrArg vI (by omega)), trivial⟩, ⟨rfl, rfl, rfl, rfl, rfl, own_rowsA (by rw [hn, ← hx]; rfl), trivial⟩, rfl⟩⟩
                  | false =>
                    ((repeat' (first | (refine awpL_step TT rfl rfl rfl sd ?_) | (refine awpL_nil ?_) | (refine awpL_skip rfl rfl ?_) | (refine awpQ_step TT rfl rfl rfl rfl sd ?_) | (refine awpQ_nil ?_) | (refine awpQ_skip rfl rfl ?_) | (refine awp_seq ?_) | (refine awp_region ?_) | (refine awp_block ?_) | (refine awp_exit ?_) | (refine awp_skip ?_) | (refine awp_ret ?_) | (refine awp_cond_t rfl ?_) | (refine awp_cond_f rfl ?_) | (refine awp_quiet TM rfl (by kernel_rfl) ?_) | ((first | refine awpL_split rfl rfl rfl (fun hc => ?_) (fun hc => ?_) | refine awpQ_split rfl rfl rfl (fun hc => ?_) (fun hc => ?_) | refine awp_cond rfl (fun hc => ?_) (fun hc => ?_)) <;> ((try simp at hc) <;> try contradiction)))) <;> try (exfalso; omega))
                    exact ⟨[], (j + 1, cap2), hjl, (by first | omega | (dsimp only; omega)), ⟨⟨rfl, rfl, sl_eqA (by rw [hn]; simp), rfl, rfl, congrArg some (congrArg vI (by omega)), trivial⟩, ⟨rfl, rfl, rfl, rfl, rfl, own_rowsA (by rw [hn]; simp), trivial⟩, rfl⟩⟩
              · refine awp_loop hE (fun x : Nat × Bool => x.1 ≤ p.length ∧ x.2 = inTo p bs x.1) (fun x => p.length - x.1) (fun x => [(1, vS 2 1 0 bs.length cb), (3, .one (.ptr 3 3 0 0)), (13, vS 8 1 0 (partL (ptIn a i xs bs) (l.take j)).length cap2), (15, vS 9 1 0 (l.getD (0 + (j : Int).toNat) rowD).xs.length (l.getD (0 + (j : Int).toNat) rowD).cap), (16, .one (.ptr 10 3 0 0)), (17, vB x.2), (18, vI x.1), (59, vS 6 1 0 l.length cap), (60, vI l.length), (61, vI j)]) (fun x => [(1, .ro (.ints xs)), (2, .ro (.ints bs)), (3, .own 27 1 (.lit [.int a, .int i, .sl 1 1 0 xs.length ca])), (6, .own 22 cap (.rows false true l)), (7, .tok 3 false l), (8, .own 22 cap2 (.rows false true (partL (ptIn a i xs bs) (l.take j)))), (9, .al (l.getD (0 + (j : Int).toNat) rowD).a (.ints (l.getD (0 + (j : Int).toNat) rowD).xs)), (10, .own 27 1 (.lit [.int a, .int 1, .sl 11 1 0 p.length c4])), (11, .own 3 c4 (.ints p))]) 12 [(11, 12)] (0, true) ⟨Nat.zero_le _, rfl⟩ ⟨(by repeat' (first | exact trivial | refine ⟨rfl, ?_⟩ | refine ⟨congrArg some (congrArg vI (by first | omega | (simp; done) | (simp; omega))), ?_⟩ | refine ⟨sl_eqA (by first | omega | (simp; done) | (simp; omega)), ?_⟩)), (by repeat' (first | exact trivial | refine ⟨rfl, ?_⟩)), rfl⟩ ?_
                rintro ⟨q, is⟩ ⟨hq, hi2⟩
                dsimp only at hq hi2
                have hnx := inTo_next (p := p) (bs := bs) (i := q)
                have g1 : p.getD q 0 = p[q]?.getD 0 := by simp
                have g2 : bs.getD q 0 = bs[q]?.getD 0 := by simp
                by_cases hqp2 : q < p.length
                · have hqb : q < bs.length := by omega
                  cases is with
                  | true =>
                    ((repeat' (first | (refine awpL_step TT rfl rfl rfl sd ?_) | (refine awpL_nil ?_) | (refine awpL_skip rfl rfl ?_) | (refine awpQ_step TT rfl rfl rfl rfl sd ?_) | (refine awpQ_nil ?_) | (refine awpQ_skip rfl rfl ?_) | (refine awp_seq ?_) | (refine awp_region ?_) | (refine awp_block ?_) | (refine awp_exit ?_) | (refine awp_skip ?_) | (refine awp_ret ?_) | (refine awp_cond_t rfl ?_) | (refine awp_cond_f rfl ?_) | (refine awp_quiet TM rfl (by kernel_rfl) ?_) | ((first | refine awpL_split rfl rfl rfl (fun hc => ?_) (fun hc => ?_) | refine awpQ_split rfl rfl rfl (fun hc => ?_) (fun hc => ?_) | refine awp_cond rfl (fun hc => ?_) (fun hc => ?_)) <;> ((try simp at hc) <;> try contradiction)))) <;> try (exfalso; omega))
                    exact ⟨[], (q + 1, decide (p.getD (0 + (q : Int).toNat) 0 ≤ bs.getD (0 + (q : Int).toNat) 0)), ⟨hqp2, by dsimp only; rw [hnx, ← hi2, Nat.zero_add, Int.toNat_natCast, Bool.true_and]⟩, (by first | omega | (dsimp only; omega)), ⟨(by repeat' (first | exact trivial | refine ⟨rfl, ?_⟩ | refine ⟨congrArg some (congrArg vI (by first | omega | (simp; done) | (simp; omega))), ?_⟩ | refine ⟨sl_eqA (by first | omega | (simp; done) | (simp; omega)), ?_⟩)), (by repeat' (first | exact trivial | refine ⟨rfl, ?_⟩)), rfl⟩⟩
                  | false =>
                    have hq2 : ptIn a i xs bs l[j].xs = false := by rw [hqp, inTo_false hi2.symm (by omega)]
                    rw [hq2] at hn
                    ((repeat' (first | (refine awpL_step TT rfl rfl rfl sd ?_) | (refine awpL_nil ?_) | (refine awpL_skip rfl rfl ?_) | (refine awpQ_step TT rfl rfl rfl rfl sd ?_) | (refine awpQ_nil ?_) | (refine awpQ_skip rfl rfl ?_) | (refine awp_seq ?_) | (refine awp_region ?_) | (refine awp_block ?_) | (refine awp_exit ?_) | (refine awp_skip ?_) | (refine awp_ret ?_) | (refine awp_cond_t rfl ?_) | (refine awp_cond_f rfl ?_) | (refine awp_quiet TM rfl (by kernel_rfl) ?_) | ((first | refine awpL_split rfl rfl rfl (fun hc => ?_) (fun hc => ?_) | refine awpQ_split rfl rfl rfl (fun hc => ?_) (fun hc => ?_) | refine awp_cond rfl (fun hc => ?_) (fun hc => ?_)) <;> ((try simp at hc) <;> try contradiction)))) <;> try (exfalso; omega))
                    exact ⟨[], (j + 1, cap2), hjl, (by first | omega | (dsimp only; omega)), ⟨⟨rfl, rfl, sl_eqA (by rw [hn]; simp), rfl, rfl, congrArg some (congrArg vI (by omega)), trivial⟩, ⟨rfl, rfl, rfl, rfl, rfl, own_rowsA (by rw [hn]; simp), trivial⟩, rfl⟩⟩
                · obtain rfl : q = p.length := by omega
                  rw [hqp, ← hi2] at hn
                  cases is with
                  | true =>
                    ((repeat' (first | (refine awpL_step TT rfl rfl rfl sd ?_) | (refine awpL_nil ?_) | (refine awpL_skip rfl rfl ?_) | (refine awpQ_step TT rfl rfl rfl rfl sd ?_) | (refine awpQ_nil ?_) | (refine awpQ_skip rfl rfl ?_) | (refine awp_seq ?_) | (refine awp_region ?_) | (first | (refine awpL_append TT rfl rfl rfl rfl rfl sd ?_; intro cap hcap) | (refine awpHop_append TT _ rfl rfl rfl rfl rfl rfl sd sb rfl rfl ?_; intro cap hcap)) | (refine awp_block ?_) | (refine awp_exit ?_) | (refine awp_skip ?_) | (refine awp_ret ?_) | (refine awp_cond_t rfl ?_) | (refine awp_cond_f rfl ?_) | (refine awp_quiet TM rfl (by kernel_rfl) ?_) | ((first | refine awpL_split rfl rfl rfl (fun hc => ?_) (fun hc => ?_) | refine awpQ_split rfl rfl rfl (fun hc => ?_) (fun hc => ?_) | refine awp_cond rfl (fun hc => ?_) (fun hc => ?_)) <;> ((try simp at hc) <;> try contradiction)))) <;> try (exfalso; omega))
                    exact ⟨[(8, 13)], (j + 1, _), hjl, (by first | omega | (dsimp only; omega)), ⟨⟨rfl, rfl, sl_eqA (by rw [hn]; simp), rfl, rfl, congrArg some (congrArg vI (by omega)), trivial⟩, ⟨rfl, rfl, rfl, rfl, rfl, own_rowsA (by rw [hn, ← hx]; rfl), trivial⟩, rfl⟩⟩
                  | false =>
                    ((repeat' (first | (refine awpL_step TT rfl rfl rfl sd ?_) | (refine awpL_nil ?_) | (refine awpL_skip rfl rfl ?_) | (refine awpQ_step TT rfl rfl rfl rfl sd ?_) | (refine awpQ_nil ?_) | (refine awpQ_skip rfl rfl ?_) | (refine awp_seq ?_) | (refine awp_region ?_) | (refine awp_block ?_) | (refine awp_exit ?_) | (refine awp_skip ?_) | (refine awp_ret ?_) | (refine awp_cond_t rfl ?_) | (refine awp_cond_f rfl ?_) | (refine awp_quiet TM rfl (by kernel_rfl) ?_) | ((first | refine awpL_split rfl rfl rfl (fun hc => ?_) (fun hc => ?_) | refine awpQ_split rfl rfl rfl (fun hc => ?_) (fun hc => ?_) | refine awp_cond rfl (fun hc => ?_) (fun hc => ?_)) <;> ((try simp at hc) <;> try contradiction)))) <;> try (exfalso; omega))
                    exact ⟨[], (j + 1, cap2), hjl, (by first | omega | (dsimp only; omega)), ⟨⟨rfl, rfl, sl_eqA (by rw [hn]; simp), rfl, rfl, congrArg some (congrArg vI (by omega)), trivial⟩, ⟨rfl, rfl, rfl, rfl, rfl, own_rowsA (by rw [hn]; simp), trivial⟩, rfl⟩⟩
          · obtain rfl : j = l.length := by omega
            ((first | refine awpL_ghost (Ghost.partN 7 (partL (ptIn a i xs bs) (l.take l.length)) rfl (by rw [List.take_length]; exact partL_mem) (by rw [List.take_length]; exact partL_apart)) ?_ | refine awp_ghost (Ghost.partN 7 (partL (ptIn a i xs bs) (l.take l.length)) rfl (by rw [List.take_length]; exact partL_mem) (by rw [List.take_length]; exact partL_apart)) ?_ | refine awpH_ghost (Ghost.partN 7 (partL (ptIn a i xs bs) (l.take l.length)) rfl (by rw [List.take_length]; exact partL_mem) (by rw [List.take_length]; exact partL_apart)) ?_ | refine awpHop_ghost (Ghost.partN 7 (partL (ptIn a i xs bs) (l.take l.length)) rfl (by rw [List.take_length]; exact partL_mem) (by rw [List.take_length]; exact partL_apart)) ?_); rintro _ _ ⟨rfl, rfl⟩)
            ((repeat' (first | (refine awpL_step TT rfl rfl rfl sd ?_) | (refine awpL_nil ?_) | (refine awpL_skip rfl rfl ?_) | (refine awpQ_step TT rfl rfl rfl rfl sd ?_) | (refine awpQ_nil ?_) | (refine awpQ_skip rfl rfl ?_) | (refine awp_seq ?_) | (refine awp_region ?_) | (refine awp_block ?_) | (refine awp_exit ?_) | (refine awp_skip ?_) | (refine awp_ret ?_) | (refine awp_cond_t rfl ?_) | (refine awp_cond_f rfl ?_) | (refine awp_quiet TM rfl (by kernel_rfl) ?_) | ((first | refine awpL_split rfl rfl rfl (fun hc => ?_) (fun hc => ?_) | refine awpQ_split rfl rfl rfl (fun hc => ?_) (fun hc => ?_) | refine awp_cond rfl (fun hc => ?_) (fun hc => ?_)) <;> ((try simp at hc) <;> try contradiction)))) <;> try (exfalso; omega))
            exact fin rfl (by repeat' (first | exact trivial | exact Nat.zero_lt_one | omega | refine ⟨?_, ?_⟩)) [(3, 8), (4, 7)] (.tup [.one (.sl 3 1 0 (partL (ptIn a i xs bs) (l.take l.length)).length cap2), .one (.bool true)]) [(3, .own 22 cap2 (.rows false true (partL (ptIn a i xs bs) (l.take l.length)))), (4, .tok 3 false (partL (ptIn a i xs bs) (l.take l.length)))] 5 ⟨_, _, by rw [List.take_length]; exact partL_rows hlL, rfl, rfl, rfl⟩ rfl ⟨trivial, ⟨rfl, rfl, trivial⟩, rfl⟩ rfl
    · have ho : ptsO r c xs bs side = none := by simp [ptsO, hs]
      rw [ho]
      ((repeat' (first | (refine awpL_step TT rfl rfl rfl sd ?_) | (refine awpL_nil ?_) | (refine awpL_skip rfl rfl ?_) | (refine awpQ_step TT rfl rfl rfl rfl sd ?_) | (refine awpQ_nil ?_) | (refine awpQ_skip rfl rfl ?_) | (refine awp_seq ?_) | (refine awp_region ?_) | ((first | refine awpL_ret (d_bodyI _ _ _ _ _ _ hl hl') rfl rfl rfl rfl rfl rfl rfl rfl ft rfl rfl ?_ | refine awpQ_ret (d_bodyI _ _ _ _ _ _ hl hl') rfl rfl rfl rfl rfl rfl rfl rfl ft rfl rfl ?_ | refine awpHop_ret _ (d_bodyI _ _ _ _ _ _ hl hl') rfl rfl rfl rfl rfl rfl rfl rfl rfl ft rfl rfl sb rfl ?_) <;> simp only [hb0]) | (refine awp_block ?_) | (refine awp_exit ?_) | (refine awp_skip ?_) | (refine awp_ret ?_) | (refine awp_cond_t rfl ?_) | (refine awp_cond_f rfl ?_) | (refine awp_quiet TM rfl (by kernel_rfl) ?_) | ((first | refine awpL_split rfl rfl rfl (fun hc => ?_) (fun hc => ?_) | refine awpQ_split rfl rfl rfl (fun hc => ?_) (fun hc => ?_) | refine awp_cond rfl (fun hc => ?_) (fun hc => ?_)) <;> ((try simp at hc) <;> try contradiction)))) <;> try (exfalso; omega))
      all_goals exact fin rfl (by repeat' (first | exact trivial | exact Nat.zero_lt_one | omega | refine ⟨?_, ?_⟩)) [(3, 4)] (.tup [.one (.sl 3 1 0 0 0), .one (.bool false)]) [(3, .own 22 0 (.rows false true []))] 4 (⟨rfl, rfl, rfl⟩) rfl ⟨trivial, ⟨rfl, trivial⟩, rfl⟩ rfl
end Go.Proofs.Ytbgeooalhoaemaa
