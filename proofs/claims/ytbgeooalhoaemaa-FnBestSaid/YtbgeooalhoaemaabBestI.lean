/-
  CONTRACT: the best point of a body, of the program.
-/
import Derived.Test.YtbgeooalhoaemaabBest
set_option linter.unusedVariables false
set_option linter.unusedSimpArgs false
namespace Go.Proofs.Ytbgeooalhoaemaa
open Go.RowKit

set_option maxRecDepth 100000 in
set_option maxHeartbeats 8000000 in
theorem d_bestI (r c side : Int) (xs bs cs : List Int) (ca cb cc : Nat) (hl : xs.length ≤ 1099511627776) (hl' : bs.length ≤ 1099511627776) (hl3 : cs.length ≤ 1099511627776) :
    Does Try.prog 50 [vM r c 1 xs.length ca, vS 2 1 0 bs.length cb, vS 3 1 0 cs.length cc, vI side] [(1, .ro (.ints xs)), (2, .ro (.ints bs)), (3, .ro (.ints cs))] 4 (BestR 3 (bestO r c xs bs cs side) 4) := by
  refine Does.intro TT Try.func50 rfl (by kernel_rfl) rfl rfl fun E hE => ?_
  have hp := d_ptsI r c side xs bs ca cb hl hl'
  cases ho : ptsO r c xs bs side with
  | none =>
    have hb : bestO r c xs bs cs side = none := by simp [bestO, ho]
    rw [ho] at hp
    rw [hb]
    ((repeat' (first | (refine awpL_step TT rfl rfl rfl sd ?_) | (refine awpL_nil ?_) | (refine awpL_skip rfl rfl ?_) | (refine awpQ_step TT rfl rfl rfl rfl sd ?_) | (refine awpQ_nil ?_) | (refine awpQ_skip rfl rfl ?_) | (refine awp_seq ?_) | (refine awp_region ?_) | ((refine awpL_call (hp) rfl rfl rfl rfl rfl rfl rfl ft rfl ?_); rintro v Hout n1 ⟨rfl, rfl, rfl⟩) | (refine awp_block ?_) | (refine awp_exit ?_) | (refine awp_skip ?_) | (refine awp_ret ?_) | (refine awp_cond_t rfl ?_) | (refine awp_cond_f rfl ?_) | (refine awp_quiet TM rfl (by kernel_rfl) ?_) | ((first | refine awpL_split rfl rfl rfl (fun hc => ?_) (fun hc => ?_) | refine awpQ_split rfl rfl rfl (fun hc => ?_) (fun hc => ?_) | refine awp_cond rfl (fun hc => ?_) (fun hc => ?_)) <;> ((try simp at hc) <;> try contradiction)))) <;> try (exfalso; omega))
    exact fin rfl (by repeat' (first | exact trivial | exact Nat.zero_lt_one | omega | refine ⟨?_, ?_⟩)) [(4, 6)] (.tup [.one (.sl 4 1 0 0 0), .one (.int 0), .one (.bool false)]) [(4, .own 3 0 (.ints []))] 5 (⟨0, rfl, rfl, rfl⟩) rfl ⟨trivial, ⟨own_ints rfl, trivial⟩, rfl⟩ rfl
  | some L =>
    rw [ho] at hp
    obtain ⟨⟨b, rfl, hb1, hb2, hrl⟩, hL⟩ := ptsO_dim ho
    by_cases hg : L ≠ [] ∧ (cs.length : Int) = b
    · obtain ⟨hL0, hcb⟩ := hg
      have hLl : 0 < L.length := List.length_pos_iff.2 hL0
      ((repeat' (first | (refine awpL_step TT rfl rfl rfl sd ?_) | (refine awpL_nil ?_) | (refine awpL_skip rfl rfl ?_) | (refine awpQ_step TT rfl rfl rfl rfl sd ?_) | (refine awpQ_nil ?_) | (refine awpQ_skip rfl rfl ?_) | (refine awp_seq ?_) | (refine awp_region ?_) | ((refine awpL_call (hp) rfl rfl rfl rfl rfl rfl rfl ft rfl ?_); rintro v Hout n1 ⟨l, cap, hlL, rfl, rfl, rfl⟩; have hll := rowsX_len hlL; have hl0 : l ≠ [] := fun h => by rw [h] at hll; exact absurd hLl (by rw [← hll]; decide)) | (refine awp_block ?_) | (refine awp_exit ?_) | (refine awp_skip ?_) | (refine awp_ret ?_) | (refine awp_cond_t rfl ?_) | (refine awp_cond_f rfl ?_) | (refine awp_quiet TM rfl (by kernel_rfl) ?_) | ((first | refine awpL_split rfl rfl rfl (fun hc => ?_) (fun hc => ?_) | refine awpQ_split rfl rfl rfl (fun hc => ?_) (fun hc => ?_) | refine awp_cond rfl (fun hc => ?_) (fun hc => ?_)) <;> ((try simp at hc) <;> try contradiction)))) <;> try (exfalso; omega))
      refine awp_loop hE (fun x : Nat × Option Row => x.1 ≤ l.length ∧ okV cs L x.1 = true ∧ (x.2 = none → x.1 = 0) ∧ ∀ R, x.2 = some R → 0 < x.1 ∧ R = l.getD (bestS cs L x.1).1.toNat rowD) (fun x => l.length - x.1)
        (fun x => [(2, vS 3 1 0 cs.length cc), (13, match x.2 with | none => vS 7 1 0 0 0 | some R => vS 7 1 0 R.xs.length R.cap), (14, vI (bestS cs L x.1).2), (42, vS 5 1 0 l.length cap), (43, vI l.length), (44, vI x.1)])
        (fun x => [(3, .ro (.ints cs)), (5, .own 22 cap (.rows false true l)), (6, .tok 3 false l), (7, match x.2 with | none => .own 3 0 (.ints []) | some R => .al R.a (.ints R.xs))]) 8 [] (0, none) ⟨Nat.zero_le _, rfl, fun _ => rfl, fun _ h => by cases h⟩ ⟨(by repeat' (first | exact trivial | refine ⟨rfl, ?_⟩ | refine ⟨congrArg some (congrArg vI (by first | omega | (simp; done) | (simp; omega))), ?_⟩ | refine ⟨sl_eqA (by first | omega | (simp; done) | (simp; omega)), ?_⟩)), (by repeat' (first | exact trivial | refine ⟨rfl, ?_⟩)), rfl⟩ ?_
      rintro ⟨j, o⟩ ⟨hj, hok, hR0, hR⟩
      dsimp only at hj hok hR0 hR
      have hbs := bestS_le (cs := cs) (L := L) j
      by_cases hjl : j < l.length
      · have hx : (l.getD (0 + (j : Int).toNat) rowD).xs = L.getD j [] := by rw [getD_row0 hlL]; simp
        have hxl : (l.getD (0 + (j : Int).toNat) rowD).xs.length = b := by
          have hjL : j < L.length := by omega
          have e : L.getD j [] = L[j] := by simp [hjL]
          rw [hx, e]; exact hrl _ (List.getElem_mem hjL)
        have hrow := fun c => d_row cs c hl3
        have hcol := fun c => d_col (l.getD (0 + (j : Int).toNat) rowD).xs c (by omega)
        have hmu := fun ca cv => d_mulI 1 cs.length (l.getD (0 + (j : Int).toNat) rowD).xs.length 1 cs (l.getD (0 + (j : Int).toNat) rowD).xs ca cv hl3 (by omega)
        have hv : mulZ 1 cs.length (l.getD (0 + (j : Int).toNat) rowD).xs.length 1 cs (l.getD (0 + (j : Int).toNat) rowD).xs = valZ cs (L.getD j []) := by rw [hx]; rfl
        have hn := okV_next hok
        rw [hv] at hmu
        cases hz : valZ cs (L.getD j []) with
        | none =>
          rw [hz] at hmu hn
          have hb : bestO r b xs bs cs side = none := by
            simp only [bestO, ho]
            rw [if_neg]
            rintro ⟨_, _, h⟩
            rw [okV_false hn (by omega)] at h; cases h
          rw [hb]
          clear hp
          cases o
          · dsimp only
            ((repeat' (first | (refine awpL_step TT rfl rfl rfl sd ?_) | (refine awpL_nil ?_) | (refine awpL_skip rfl rfl ?_) | (refine awpQ_step TT rfl rfl rfl rfl sd ?_) | (refine awpQ_nil ?_) | (refine awpQ_skip rfl rfl ?_) | (refine awp_seq ?_) | (refine awp_region ?_) | ((first | refine awpL_one (hrow _) rfl rfl rfl rfl rfl rfl rfl ft rfl rfl (RowM.out) ?_ | refine awpHop_one _ (hrow _) rfl rfl rfl rfl rfl rfl rfl rfl ft rfl rfl (RowM.out) sb rfl rfl ?_); rintro v b ⟨c3, hc3, rfl, he, -⟩; cases he) | ((first | refine awpL_one (hcol _) rfl rfl rfl rfl rfl rfl rfl ft rfl rfl (RowM.out) ?_ | refine awpHop_one _ (hcol _) rfl rfl rfl rfl rfl rfl rfl rfl ft rfl rfl (RowM.out) sb rfl rfl ?_); rintro v b ⟨c4, hc4, rfl, he, -⟩; cases he) | ((refine awpL_call (hmu _ _) rfl rfl rfl rfl rfl rfl rfl ft rfl ?_); rintro v Hout n1 ⟨rfl, rfl, rfl⟩) | (refine awp_block ?_) | (refine awp_exit ?_) | (refine awp_skip ?_) | (refine awp_ret ?_) | (refine awp_cond_t rfl ?_) | (refine awp_cond_f rfl ?_) | (refine awp_quiet TM rfl (by kernel_rfl) ?_) | ((first | refine awpL_split rfl rfl rfl (fun hc => ?_) (fun hc => ?_) | refine awpQ_split rfl rfl rfl (fun hc => ?_) (fun hc => ?_) | refine awp_cond rfl (fun hc => ?_) (fun hc => ?_)) <;> ((try simp at hc) <;> try contradiction)))) <;> try (exfalso; omega))
            exact fin rfl (by repeat' (first | exact trivial | exact Nat.zero_lt_one | omega | refine ⟨?_, ?_⟩)) [(4, 12)] (.tup [.one (.sl 4 1 0 0 0), .one (.int 0), .one (.bool false)]) [(4, .own 3 0 (.ints []))] 5 (⟨0, rfl, rfl, rfl⟩) rfl ⟨trivial, ⟨own_ints rfl, trivial⟩, rfl⟩ rfl
          · dsimp only
            ((repeat' (first | (refine awpL_step TT rfl rfl rfl sd ?_) | (refine awpL_nil ?_) | (refine awpL_skip rfl rfl ?_) | (refine awpQ_step TT rfl rfl rfl rfl sd ?_) | (refine awpQ_nil ?_) | (refine awpQ_skip rfl rfl ?_) | (refine awp_seq ?_) | (refine awp_region ?_) | ((first | refine awpL_one (hrow _) rfl rfl rfl rfl rfl rfl rfl ft rfl rfl (RowM.out) ?_ | refine awpHop_one _ (hrow _) rfl rfl rfl rfl rfl rfl rfl rfl ft rfl rfl (RowM.out) sb rfl rfl ?_); rintro v b ⟨c3, hc3, rfl, he, -⟩; cases he) | ((first | refine awpL_one (hcol _) rfl rfl rfl rfl rfl rfl rfl ft rfl rfl (RowM.out) ?_ | refine awpHop_one _ (hcol _) rfl rfl rfl rfl rfl rfl rfl rfl ft rfl rfl (RowM.out) sb rfl rfl ?_); rintro v b ⟨c4, hc4, rfl, he, -⟩; cases he) | ((refine awpL_call (hmu _ _) rfl rfl rfl rfl rfl rfl rfl ft rfl ?_); rintro v Hout n1 ⟨rfl, rfl, rfl⟩) | (refine awp_block ?_) | (refine awp_exit ?_) | (refine awp_skip ?_) | (refine awp_ret ?_) | (refine awp_cond_t rfl ?_) | (refine awp_cond_f rfl ?_) | (refine awp_quiet TM rfl (by kernel_rfl) ?_) | ((first | refine awpL_split rfl rfl rfl (fun hc => ?_) (fun hc => ?_) | refine awpQ_split rfl rfl rfl (fun hc => ?_) (fun hc => ?_) | refine awp_cond rfl (fun hc => ?_) (fun hc => ?_)) <;> ((try simp at hc) <;> try contradiction)))) <;> try (exfalso; omega))
            exact fin rfl (by repeat' (first | exact trivial | exact Nat.zero_lt_one | omega | refine ⟨?_, ?_⟩)) [(4, 12)] (.tup [.one (.sl 4 1 0 0 0), .one (.int 0), .one (.bool false)]) [(4, .own 3 0 (.ints []))] 5 (⟨0, rfl, rfl, rfl⟩) rfl ⟨trivial, ⟨own_ints rfl, trivial⟩, rfl⟩ rfl
        | some p =>
          rw [hz] at hmu hn
          have hp1 : p.length = 1 := by simpa using mulZ_len hz
          have hvn : valN cs (L.getD j []) = p[0]?.getD 0 := by rw [valN, hz]; simp
          have hst : ∀ _ : Unit, bestS cs L (j + 1) = if (bestS cs L j).1 < 0 ∨ (bestS cs L j).2 < p[0]?.getD 0 then ((j : Int), p[0]?.getD 0) else bestS cs L j := fun _ => by rw [bestS, hvn]
          generalize bestS cs L j = B at *
          obtain ⟨m, v⟩ := B
          dsimp only at hbs hst hR
          clear hvn hp
          have hg0 : ∀ R, (none : Option Row) = some R → False := fun R h => by cases h
          have htake : (m < 0 ∨ v < p[0]?.getD 0) → l.getD (0 + (j : Int).toNat) rowD = l.getD (bestS cs L (j + 1)).1.toNat rowD ∧ p[0]?.getD 0 = (bestS cs L (j + 1)).2 := fun h => by rw [hst (), if_pos h]; simp
          have hkeep : ¬ (m < 0 ∨ v < p[0]?.getD 0) → bestS cs L (j + 1) = (m, v) := fun h => by rw [hst (), if_neg h]
          cases o
          · have hj0 := hR0 rfl
            dsimp only
            ((repeat' (first | (refine awpL_step TT rfl rfl rfl sd ?_) | (refine awpL_nil ?_) | (refine awpL_skip rfl rfl ?_) | (refine awpQ_step TT rfl rfl rfl rfl sd ?_) | (refine awpQ_nil ?_) | (refine awpQ_skip rfl rfl ?_) | (refine awp_seq ?_) | (refine awp_region ?_) | ((first | refine awpL_one (hrow _) rfl rfl rfl rfl rfl rfl rfl ft rfl rfl (RowM.out) ?_ | refine awpHop_one _ (hrow _) rfl rfl rfl rfl rfl rfl rfl rfl ft rfl rfl (RowM.out) sb rfl rfl ?_); rintro v b ⟨c3, hc3, rfl, he, -⟩; cases he) | ((first | refine awpL_one (hcol _) rfl rfl rfl rfl rfl rfl rfl ft rfl rfl (RowM.out) ?_ | refine awpHop_one _ (hcol _) rfl rfl rfl rfl rfl rfl rfl rfl ft rfl rfl (RowM.out) sb rfl rfl ?_); rintro v b ⟨c4, hc4, rfl, he, -⟩; cases he) | ((refine awpL_call (hmu _ _) rfl rfl rfl rfl rfl rfl rfl ft rfl ?_); rintro v' Hout n1 ⟨c5, hc5, rfl, rfl, rfl⟩) | (refine awp_block ?_) | (refine awp_exit ?_) | (refine awp_skip ?_) | (refine awp_ret ?_) | (refine awp_cond_t rfl ?_) | (refine awp_cond_f rfl ?_) | (refine awp_quiet TM rfl (by kernel_rfl) ?_) | ((first | refine awpL_split rfl rfl rfl (fun hc => ?_) (fun hc => ?_) | refine awpQ_split rfl rfl rfl (fun hc => ?_) (fun hc => ?_) | refine awp_cond rfl (fun hc => ?_) (fun hc => ?_)) <;> ((try simp at hc) <;> try contradiction)))) <;> try (exfalso; omega))
            all_goals
              have hT := htake (by omega)
              refine ⟨[(7, 8)], (j + 1, some (l.getD (0 + (j : Int).toNat) rowD)), ⟨hjl, hn, (fun h => by cases h), fun R' h => by cases h; exact ⟨Nat.succ_pos _, hT.1⟩⟩, (by first | omega | (dsimp only; omega)), ⟨⟨rfl, rfl, congrArg some (congrArg vI (by first | exact hT.2 | exact hT.2.symm)), rfl, rfl, congrArg some (congrArg vI (by omega)), trivial⟩, ⟨rfl, rfl, rfl, rfl, trivial⟩, rfl⟩⟩
          · rename_i R
            have hj0 := (hR R rfl).1
            dsimp only
            ((repeat' (first | (refine awpL_step TT rfl rfl rfl sd ?_) | (refine awpL_nil ?_) | (refine awpL_skip rfl rfl ?_) | (refine awpQ_step TT rfl rfl rfl rfl sd ?_) | (refine awpQ_nil ?_) | (refine awpQ_skip rfl rfl ?_) | (refine awp_seq ?_) | (refine awp_region ?_) | ((first | refine awpL_one (hrow _) rfl rfl rfl rfl rfl rfl rfl ft rfl rfl (RowM.out) ?_ | refine awpHop_one _ (hrow _) rfl rfl rfl rfl rfl rfl rfl rfl ft rfl rfl (RowM.out) sb rfl rfl ?_); rintro v b ⟨c3, hc3, rfl, he, -⟩; cases he) | ((first | refine awpL_one (hcol _) rfl rfl rfl rfl rfl rfl rfl ft rfl rfl (RowM.out) ?_ | refine awpHop_one _ (hcol _) rfl rfl rfl rfl rfl rfl rfl rfl ft rfl rfl (RowM.out) sb rfl rfl ?_); rintro v b ⟨c4, hc4, rfl, he, -⟩; cases he) | ((refine awpL_call (hmu _ _) rfl rfl rfl rfl rfl rfl rfl ft rfl ?_); rintro v' Hout n1 ⟨c5, hc5, rfl, rfl, rfl⟩) | (refine awp_block ?_) | (refine awp_exit ?_) | (refine awp_skip ?_) | (refine awp_ret ?_) | (refine awp_cond_t rfl ?_) | (refine awp_cond_f rfl ?_) | (refine awp_quiet TM rfl (by kernel_rfl) ?_) | ((first | refine awpL_split rfl rfl rfl (fun hc => ?_) (fun hc => ?_) | refine awpQ_split rfl rfl rfl (fun hc => ?_) (fun hc => ?_) | refine awp_cond rfl (fun hc => ?_) (fun hc => ?_)) <;> ((try simp at hc) <;> try contradiction)))) <;> try (exfalso; omega))
            · have hT := htake (by omega)
              refine ⟨[(7, 8)], (j + 1, some (l.getD (0 + (j : Int).toNat) rowD)), ⟨hjl, hn, (fun h => by cases h), fun R' h => by cases h; exact ⟨Nat.succ_pos _, hT.1⟩⟩, (by first | omega | (dsimp only; omega)), ⟨⟨rfl, rfl, congrArg some (congrArg vI (by first | exact hT.2 | exact hT.2.symm)), rfl, rfl, congrArg some (congrArg vI (by omega)), trivial⟩, ⟨rfl, rfl, rfl, rfl, trivial⟩, rfl⟩⟩
            · have hT := hkeep (by omega)
              have hT2 : v = (bestS cs L (j + 1)).2 := by rw [hT]
              refine ⟨[], (j + 1, some R), ⟨hjl, hn, (fun h => by cases h), fun R' h => by cases h; exact ⟨Nat.succ_pos _, by rw [hT]; exact (hR _ rfl).2⟩⟩, (by first | omega | (dsimp only; omega)), ⟨⟨rfl, rfl, congrArg some (congrArg vI (by first | exact hT2 | exact hT2.symm)), rfl, rfl, congrArg some (congrArg vI (by omega)), trivial⟩, ⟨rfl, rfl, rfl, rfl, trivial⟩, rfl⟩⟩
      · obtain rfl : j = l.length := by omega
        have hb : bestO r b xs bs cs side = some ((l.getD (0 + (bestS cs L l.length).1.toNat) rowD).xs, (bestS cs L l.length).2) := by
          simp only [bestO, ho]
          rw [if_pos ⟨hL0, hcb, by rw [← hll]; exact hok⟩, getD_row0 hlL, hll, Nat.zero_add]
        have hb0 := hbs.2.1 (by omega)
        have hbl := hbs.2.2
        cases o with
        | none => exact absurd (hR0 rfl) (by omega)
        | some R =>
          have hRe := (hR R rfl).2
          have hsp := row_split (l := l) (j := (bestS cs L l.length).1.toNat) (by omega)
          rw [Nat.zero_add, ← hRe] at hb
          rw [← hRe] at hsp
          rw [hb]
          dsimp only
          refine awp_wake 13 6 (l.take (bestS cs L l.length).1.toNat) (l.drop ((bestS cs L l.length).1.toNat + 1)) R rfl rfl (congrArg (fun z => some (Blk.tok 3 false z)) hsp) ?_
          ((repeat' (first | (refine awpL_step TT rfl rfl rfl sd ?_) | (refine awpL_nil ?_) | (refine awpL_skip rfl rfl ?_) | (refine awpQ_step TT rfl rfl rfl rfl sd ?_) | (refine awpQ_nil ?_) | (refine awpQ_skip rfl rfl ?_) | (refine awp_seq ?_) | (refine awp_region ?_) | (refine awp_block ?_) | (refine awp_exit ?_) | (refine awp_skip ?_) | (refine awp_ret ?_) | (refine awp_cond_t rfl ?_) | (refine awp_cond_f rfl ?_) | (refine awp_quiet TM rfl (by kernel_rfl) ?_) | ((first | refine awpL_split rfl rfl rfl (fun hc => ?_) (fun hc => ?_) | refine awpQ_split rfl rfl rfl (fun hc => ?_) (fun hc => ?_) | refine awp_cond rfl (fun hc => ?_) (fun hc => ?_)) <;> ((try simp at hc) <;> try contradiction)))) <;> try (exfalso; omega))
          exact fin rfl (by repeat' (first | exact trivial | exact Nat.zero_lt_one | omega | refine ⟨?_, ?_⟩)) [(4, 8)] (.tup [.one (.sl 4 1 0 R.xs.length R.cap), .one (.int (bestS cs L l.length).2), .one (.bool true)]) [(4, .own 3 R.cap (.ints R.xs))] 5 (⟨_, rfl, rfl, rfl⟩) rfl ⟨trivial, ⟨own_ints rfl, trivial⟩, rfl⟩ rfl
    · have hb : bestO r b xs bs cs side = none := by
        simp only [bestO, ho]
        rw [if_neg]
        rintro ⟨h1, h2, _⟩
        exact hg ⟨h1, h2⟩
      have hg2 : L.length = 0 ∨ (cs.length : Int) ≠ b := by
        rcases Nat.eq_zero_or_pos L.length with q | q
        · exact .inl q
        · exact .inr fun h => hg ⟨List.length_pos_iff.1 q, h⟩
      rw [hb]
      rcases hg2 with q | q
      · ((repeat' (first | (refine awpL_step TT rfl rfl rfl sd ?_) | (refine awpL_nil ?_) | (refine awpL_skip rfl rfl ?_) | (refine awpQ_step TT rfl rfl rfl rfl sd ?_) | (refine awpQ_nil ?_) | (refine awpQ_skip rfl rfl ?_) | (refine awp_seq ?_) | (refine awp_region ?_) | ((refine awpL_call (hp) rfl rfl rfl rfl rfl rfl rfl ft rfl ?_); rintro v Hout n1 ⟨l, cap, hlL, rfl, rfl, rfl⟩; have hl0 : l = [] := List.eq_nil_of_length_eq_zero ((rowsX_len hlL).trans q)) | (refine awp_block ?_) | (refine awp_exit ?_) | (refine awp_skip ?_) | (refine awp_ret ?_) | (refine awp_cond_t rfl ?_) | (refine awp_cond_f rfl ?_) | (refine awp_quiet TM rfl (by kernel_rfl) ?_) | ((first | refine awpL_split rfl rfl rfl (fun hc => ?_) (fun hc => ?_) | refine awpQ_split rfl rfl rfl (fun hc => ?_) (fun hc => ?_) | refine awp_cond rfl (fun hc => ?_) (fun hc => ?_)) <;> ((try simp at hc) <;> try contradiction)))) <;> try (exfalso; omega))
        all_goals exact fin rfl (by repeat' (first | exact trivial | exact Nat.zero_lt_one | omega | refine ⟨?_, ?_⟩)) [(4, 7)] (.tup [.one (.sl 4 1 0 0 0), .one (.int 0), .one (.bool false)]) [(4, .own 3 0 (.ints []))] 5 (⟨0, rfl, rfl, rfl⟩) rfl ⟨trivial, ⟨own_ints rfl, trivial⟩, rfl⟩ rfl
      · ((repeat' (first | (refine awpL_step TT rfl rfl rfl sd ?_) | (refine awpL_nil ?_) | (refine awpL_skip rfl rfl ?_) | (refine awpQ_step TT rfl rfl rfl rfl sd ?_) | (refine awpQ_nil ?_) | (refine awpQ_skip rfl rfl ?_) | (refine awp_seq ?_) | (refine awp_region ?_) | ((refine awpL_call (hp) rfl rfl rfl rfl rfl rfl rfl ft rfl ?_); rintro v Hout n1 ⟨l, cap, hlL, rfl, rfl, rfl⟩; have hll := rowsX_len hlL) | (refine awp_block ?_) | (refine awp_exit ?_) | (refine awp_skip ?_) | (refine awp_ret ?_) | (refine awp_cond_t rfl ?_) | (refine awp_cond_f rfl ?_) | (refine awp_quiet TM rfl (by kernel_rfl) ?_) | ((first | refine awpL_split rfl rfl rfl (fun hc => ?_) (fun hc => ?_) | refine awpQ_split rfl rfl rfl (fun hc => ?_) (fun hc => ?_) | refine awp_cond rfl (fun hc => ?_) (fun hc => ?_)) <;> ((try simp at hc) <;> try contradiction)))) <;> try (exfalso; omega))
        all_goals exact fin rfl (by repeat' (first | exact trivial | exact Nat.zero_lt_one | omega | refine ⟨?_, ?_⟩)) [(4, 7)] (.tup [.one (.sl 4 1 0 0 0), .one (.int 0), .one (.bool false)]) [(4, .own 3 0 (.ints []))] 5 (⟨0, rfl, rfl, rfl⟩) rfl ⟨trivial, ⟨own_ints rfl, trivial⟩, rfl⟩ rfl
end Go.Proofs.Ytbgeooalhoaemaa
