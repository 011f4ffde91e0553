/-
  THE LAW FnIsometries, walked.
-/
import Derived.Test.YtekpamojojfplaaGreatDbDrawT
import Derived.Test.YtekpamojojfplaaGreatDbMix
import Derived.Test.YtekpamojojfplaaGreatDStpN
import Derived.Test.YtekpamojojfplaaGreatDpIsH
import Derived.Test.YtekpamojojfplaaGreatD31
import Derived.Test.YtekpamojojfplaaGreatD21
set_option linter.unusedVariables false
set_option linter.unusedSimpArgs false
namespace Go.Proofs.YtekpamojojfplaaGreat
open Go.RowKit

theorem Ghost.nilBox {E : Env} {H : Nat → Option Blk} {nx : Nat} (k f sz : Nat) {c : Nat} {t : TypeId} {l : List SV} (et : TypeId) (e0 : Elts) (hk : H k = some (.own t c (.lit l))) (hf : nth l f = some (.sl 0 sz 0 0 0)) (he : e0.len = 0) (hz : Nat.beq e0.sz sz = true) :
    Ghost E H nx fun H' nx' => H' = upd (upd H nx (.own et 0 e0)) k (.own t c (.lit (l.set f (.sl nx sz 0 0 0)))) ∧ nx' = nx + 1 := fun ρ _ h => ⟨_, _, _, ⟨rfl, rfl⟩, h.nilBox hk hf he hz, fun k hk => setR_ne (Nat.ne_of_lt hk), Nat.le_succ _⟩
abbrev matE : Int × Int × Row := (0, 0, rowD)
theorem matE_mem {l : List (Int × Int × Row)} : ∀ x ∈ (Elts.mats true l).rds, x.1 = false ∧ x.2 ∈ l.map fun m => m.2.2 := fun x hx => by obtain ⟨m, hm, rfl⟩ := List.mem_map.1 hx; exact ⟨rfl, List.mem_map.2 ⟨m, hm, rfl⟩⟩
theorem Fnd.at {n : Nat} {new : List (Int × Int × Row)} {L : List (List Int)} (h : Fnd n new L) {j : Nat} (hj : j < new.length) : (new.getD j matE).1 = n ∧ (new.getD j matE).2.1 = n ∧ (new.getD j matE).2.2.xs ∈ L := by
  have hm : (new.getD j matE).1 = (new.getD j matE).1 := rfl
  have hx : ((new.getD j matE).1, (new.getD j matE).2.1, (new.getD j matE).2.2.xs) ∈ L.map fun c => ((n : Int), (n : Int), c) := by
    rw [← h]
    refine List.mem_map.2 ⟨new.getD j matE, ?_, rfl⟩
    rw [getD_in hj]; exact List.getElem_mem _
  obtain ⟨x, hx1, hx2⟩ := List.mem_map.1 hx
  injection hx2 with q1 q2
  injection q2 with q2 q3
  exact ⟨q1.symm, q2.symm, q3 ▸ hx1⟩
theorem Fnd.has {n : Nat} {new : List (Int × Int × Row)} {L : List (List Int)} (h : Fnd n new L) {x : List Int} (hx : x ∈ L) : ∃ j, j < new.length ∧ (new.getD j matE).1 = n ∧ (new.getD j matE).2.1 = n ∧ (new.getD j matE).2.2.xs = x := by
  have hm : ((n : Int), (n : Int), x) ∈ new.map fun m => (m.1, m.2.1, m.2.2.xs) := by
    rw [h]; exact List.mem_map.2 ⟨x, hx, rfl⟩
  obtain ⟨m, hm, e⟩ := List.mem_map.1 hm
  obtain ⟨j, hj, rfl⟩ := List.mem_iff_getElem.1 hm
  injection e with q1 q2
  injection q2 with q2 q3
  refine ⟨j, hj, ?_⟩
  rw [getD_in hj]
  exact ⟨q1, q2, q3⟩
/-- whether one of the first matrices is the given one -/
def hasM (new : List (Int × Int × Row)) (r c : Int) (p : List Int) : Nat → Bool
  | 0 => false
  | j + 1 => hasM new r c p j || sameM (new.getD j matE).1 (new.getD j matE).2.1 r c (new.getD j matE).2.2.xs p
theorem hasM_of {new : List (Int × Int × Row)} {r c : Int} {p : List Int} {j : Nat} (h : sameM (new.getD j matE).1 (new.getD j matE).2.1 r c (new.getD j matE).2.2.xs p = true) : ∀ {m : Nat}, j < m → hasM new r c p m = true
  | m + 1, hm => by
    rw [hasM]
    by_cases e : j = m
    · subst e; rw [h, Bool.or_true]
    · rw [hasM_of h (m := m) (by omega), Bool.true_or]
set_option maxRecDepth 100000 in
set_option maxHeartbeats 32000000 in
theorem d_fnIso (bs : List Int) (c : Nat) (hby : ∀ k : Nat, 0 ≤ bs.getD k 0 ∧ bs.getD k 0 ≤ 255) : Does Tryz.prog 3 [vS 1 1 0 bs.length c] [(1, .ro (.bytes bs))] 2 (Ret (vB true) 2) := by
  refine Does.intro TT Tryz.func3 rfl (by kernel_rfl) rfl rfl fun E hE => ?_
  by_cases hbg : (1048576 : Int) < bs.length
  · ((repeat' (first | refine stx ?_ | ((first | refine w_z (d_big _ _) rfl rfl rfl rfl rfl rfl rfl rfl ft rfl rfl ?_ | refine w_A (d_big _ _) rfl rfl rfl rfl rfl rfl rfl rfl ft rfl rfl ?_) <;> simp only [hbg]) | (refine stq ?_ ?_ <;> (intro hc; ((try simp at hc) <;> try contradiction))) | fail)) <;> try (exfalso; omega))
    all_goals refine fin_ret rfl w_3 (rfl) rfl
  · have hl : bs.length ≤ 1048576 := by omega
    ((repeat' (first | refine stp ?_ | ((first | refine w_z (d_big _ _) rfl rfl rfl rfl rfl rfl rfl rfl ft rfl rfl ?_ | refine w_A (d_big _ _) rfl rfl rfl rfl rfl rfl rfl rfl ft rfl rfl ?_) <;> simp only [hbg]) | ((refine w_E (d_drawIso bs c hl) rfl rfl rfl rfl rfl rfl rfl ft rfl ?_)) | (refine stq ?_ ?_ <;> (intro hc; ((try simp at hc) <;> try contradiction))) | fail)) <;> try (exfalso; omega))
    rintro v Hout n1 ⟨r, k, r', k', g, h, cg, ch, hg10, hh10, hcg, hch, rfl, rfl, rfl⟩
    have hg1 : g.length ≤ 1099511627776 := by omega
    have hh1 : h.length ≤ 1099511627776 := by omega
    have i1 := d_isoOI r k r' k' g h cg ch hg1 hh1 hcg hch
    have i2 := d_isoOS r k r' k' g h cg ch hg1 hh1
    have a1 := d_autI r k g cg hg1 hcg
    have a2 := d_autI r' k' h ch hh1 hch
    ((repeat' (first | (refine awp_cutR 4 hE (fun z : Nat × List Int × Nat × Bool × Bool => ((z.2.2.2.1 = true ∧ z.2.2.2.2 = true ∧ isoO r k g r' k' h = some (some (z.1, z.2.1))) ∨ (z.2.2.2.1 = false ∧ z.2.1 = [] ∧ z.2.2.2.2 = (isoO r k g r' k' h).isSome))) (fun z => [(0, vS 1 1 0 bs.length c), (3, .one (.ptr 4 3 0 0)), (4, .one (.ptr 5 3 0 0)), (5, .one (.ptr 7 3 0 0)), (6, vB z.2.2.2.1), (7, vB z.2.2.2.2)]) (fun z => [(1, .ro (.bytes bs)), (2, .own 3 cg (.ints g)), (3, .own 3 ch (.ints h)), (4, .own 26 1 (.lit [.int r, .int k, .sl 2 1 0 g.length cg])), (5, .own 26 1 (.lit [.int r', .int k', .sl 3 1 0 h.length ch])), (6, .own 3 z.2.2.1 (.ints z.2.1)), (7, .own 26 1 (.lit [.int z.1, .int z.1, .sl 6 1 0 z.2.1.length z.2.2.1]))]) 8 ?_ ?_) | refine stp ?_ | (refine stq ?_ ?_ <;> (intro hc; ((try simp at hc) <;> try contradiction))) | fail)) <;> try (exfalso; omega))
    · cases ho : isoO r k g r' k' h with
      | none =>
        rw [ho] at i1
        ((repeat' (first | (refine awpL_ghost (Ghost.nilBox 6 2 1 3 (.ints []) rfl rfl rfl rfl) ?_; rintro _ _ ⟨rfl, rfl⟩) | refine stp ?_ | ((refine w_E (i1) rfl rfl rfl rfl rfl rfl rfl ft rfl ?_); rintro v Hout n1 ⟨rfl, rfl, rfl⟩) | (refine stq ?_ ?_ <;> (intro hc; ((try simp at hc) <;> try contradiction))) | fail)) <;> try (exfalso; omega))
        exact ⟨[(6, 8), (7, 6)], (0, [], 0, false, false), .inr ⟨rfl, rfl, rfl⟩, ⟨w_1, w_2, rfl⟩⟩
      | some o =>
        cases o with
        | none =>
          rw [ho] at i1
          ((repeat' (first | (refine awpL_ghost (Ghost.nilBox 6 2 1 3 (.ints []) rfl rfl rfl rfl) ?_; rintro _ _ ⟨rfl, rfl⟩) | refine stp ?_ | ((refine w_E (i1) rfl rfl rfl rfl rfl rfl rfl ft rfl ?_); rintro v Hout n1 ⟨rfl, rfl, rfl⟩) | (refine stq ?_ ?_ <;> (intro hc; ((try simp at hc) <;> try contradiction))) | fail)) <;> try (exfalso; omega))
          exact ⟨[(6, 8), (7, 6)], (0, [], 0, false, true), .inr ⟨rfl, rfl, rfl⟩, ⟨w_1, w_2, rfl⟩⟩
        | some p =>
          obtain ⟨n, x⟩ := p
          rw [ho] at i1
          ((repeat' (first | refine stp ?_ | ((refine w_E (i1) rfl rfl rfl rfl rfl rfl rfl ft rfl ?_); rintro v Hout n1 ⟨cap, rfl, rfl, rfl⟩) | (refine stq ?_ ?_ <;> (intro hc; ((try simp at hc) <;> try contradiction))) | fail)) <;> try (exfalso; omega))
          exact ⟨[], (n, x, cap, true, true), .inl ⟨rfl, rfl, rfl⟩, ⟨w_1, w_2, rfl⟩⟩
    · rintro ⟨n, x, cap, fo, kn⟩ hz
      dsimp only at hz ⊢
      have hkn : kn = (isoO r k g r' k' h).isSome := by
        rcases hz with ⟨-, rfl, ho⟩ | ⟨-, -, ho⟩
        · rw [ho]; rfl
        · exact ho
      refine awp_cut 5 hE (fun _ : Unit => True) (fun _ => [(0, vS 1 1 0 bs.length c), (3, .one (.ptr 4 3 0 0)), (4, .one (.ptr 5 3 0 0)), (5, .one (.ptr 7 3 0 0)), (6, vB fo), (7, vB kn)]) (fun _ => [(1, .ro (.bytes bs)), (2, .own 3 cg (.ints g)), (3, .own 3 ch (.ints h)), (4, .own 26 1 (.lit [.int r, .int k, .sl 2 1 0 g.length cg])), (5, .own 26 1 (.lit [.int r', .int k', .sl 3 1 0 h.length ch])), (6, .own 3 cap (.ints x)), (7, .own 26 1 (.lit [.int n, .int n, .sl 6 1 0 x.length cap]))]) 8 ?_ ?_
      · subst hkn
        cases ho : isoO r k g r' k' h with
        | none =>
          rw [ho] at i2
          ((repeat' (first | refine stp ?_ | ((refine w_E (i2) rfl rfl rfl rfl rfl rfl rfl ft rfl ?_); rintro v Hout n1 ⟨rfl, rfl, rfl⟩) | (refine stq ?_ ?_ <;> (intro hc; ((try simp at hc) <;> try contradiction))) | fail)) <;> try (exfalso; omega))
          exact ⟨[], (), trivial, ⟨w_1, w_2, rfl⟩⟩
        | some o =>
          cases o with
          | none =>
            rw [ho] at i2
            ((repeat' (first | refine stp ?_ | ((refine w_E (i2) rfl rfl rfl rfl rfl rfl rfl ft rfl ?_); rintro v Hout n1 ⟨rfl, rfl, rfl⟩) | (refine stq ?_ ?_ <;> (intro hc; ((try simp at hc) <;> try contradiction))) | fail)) <;> try (exfalso; omega))
            exact ⟨[], (), trivial, ⟨w_1, w_2, rfl⟩⟩
          | some p =>
            obtain ⟨n2, x2⟩ := p
            rw [ho] at i2
            ((repeat' (first | refine stp ?_ | ((refine w_E (i2) rfl rfl rfl rfl rfl rfl rfl ft rfl ?_); rintro v Hout n1 ⟨cap2, rfl, rfl, rfl⟩) | (refine stq ?_ ?_ <;> (intro hc; ((try simp at hc) <;> try contradiction))) | fail)) <;> try (exfalso; omega))
            exact ⟨[], (), trivial, ⟨w_1, w_2, rfl⟩⟩
      · rintro ⟨⟩ -
        refine awp_cut 8 hE (fun _ : Unit => True) (fun _ => [(0, vS 1 1 0 bs.length c), (3, .one (.ptr 4 3 0 0)), (4, .one (.ptr 5 3 0 0)), (6, vB fo)]) (fun _ => [(1, .ro (.bytes bs)), (2, .own 3 cg (.ints g)), (3, .own 3 ch (.ints h)), (4, .own 26 1 (.lit [.int r, .int k, .sl 2 1 0 g.length cg])), (5, .own 26 1 (.lit [.int r', .int k', .sl 3 1 0 h.length ch]))]) 6 ?_ ?_
        · rcases hz with ⟨rfl, rfl, ho⟩ | ⟨rfl, rfl, -⟩
          · have e := iso_good hg10 ho
            have hx1 : x.length ≤ 1099511627776 := by
              have h6 := iso_len ho
              have := Nat.mul_le_mul h6.1 h6.1
              omega
            have b1 := d_isoI r k r' k' n n g h x cg ch cap hg1 hh1 hx1
            have b2 := d_isoS r k r' k' n n g h x cg ch cap hg1 hh1 hx1
            rw [e] at b1 b2
            ((repeat' (first | refine stp ?_ | (first | refine w_z (b1) rfl rfl rfl rfl rfl rfl rfl rfl ft rfl rfl ?_ | refine w_A (b1) rfl rfl rfl rfl rfl rfl rfl rfl ft rfl rfl ?_) | (first | refine w_z (b2) rfl rfl rfl rfl rfl rfl rfl rfl ft rfl rfl ?_ | refine w_A (b2) rfl rfl rfl rfl rfl rfl rfl rfl ft rfl rfl ?_) | (refine stq ?_ ?_ <;> (intro hc; ((try simp at hc) <;> try contradiction))) | fail)) <;> try (exfalso; omega))
            exact ⟨[], (), trivial, ⟨w_1, w_2, rfl⟩⟩
          · ((repeat' (first | refine stp ?_ | (refine stq ?_ ?_ <;> (intro hc; ((try simp at hc) <;> try contradiction))) | fail)) <;> try (exfalso; omega))
            exact ⟨[], (), trivial, ⟨w_1, w_2, rfl⟩⟩
        · rintro ⟨⟩ -
          have hfo : fo = true → ∃ n x, isoO r k g r' k' h = some (some (n, x)) := fun e => by
            rcases hz with ⟨-, -, ho⟩ | ⟨e2, -, -⟩
            · exact ⟨_, _, ho⟩
            · rw [e] at e2; cases e2
          clear hz hkn
          refine awp_cutR 10 hE (fun z : List (Int × Int × Row) × Nat × Bool => ∃ n L, Fnd n z.1 L ∧ (z.2.2 = true → autO r k g = some (n, L)) ∧ (z.2.2 = false → L = [])) (fun z => [(0, vS 1 1 0 bs.length c), (3, .one (.ptr 4 3 0 0)), (4, .one (.ptr 5 3 0 0)), (6, vB fo), (11, .one (.sl 6 3 0 z.1.length z.2.1)), (12, vB z.2.2)]) (fun z => [(1, .ro (.bytes bs)), (2, .own 3 cg (.ints g)), (3, .own 3 ch (.ints h)), (4, .own 26 1 (.lit [.int r, .int k, .sl 2 1 0 g.length cg])), (5, .own 26 1 (.lit [.int r', .int k', .sl 3 1 0 h.length ch])), (6, .own 26 z.2.1 (.mats false z.1)), (7, .tok 3 false (z.1.map fun m => m.2.2))]) 8 ?_ ?_
          · cases ha : autO r k g with
            | none =>
              rw [ha] at a1
              ((repeat' (first | refine stp ?_ | ((refine w_E (a1) rfl rfl rfl rfl rfl rfl rfl ft rfl ?_); rintro v Hout n1 ⟨rfl, rfl, rfl⟩; ((first | refine awpL_ghost (Ghost.forget 6 rfl rfl) ?_ | refine awp_ghost (Ghost.forget 6 rfl rfl) ?_ | refine awpH_ghost (Ghost.forget 6 rfl rfl) ?_ | refine awpHop_ghost (Ghost.forget 6 rfl rfl) ?_); rintro _ _ ⟨rfl, rfl⟩); ((first | refine awpL_ghost (Ghost.newTok 3 false) ?_ | refine awp_ghost (Ghost.newTok 3 false) ?_ | refine awpH_ghost (Ghost.newTok 3 false) ?_ | refine awpHop_ghost (Ghost.newTok 3 false) ?_); rintro _ _ ⟨rfl, rfl⟩)) | (refine stq ?_ ?_ <;> (intro hc; ((try simp at hc) <;> try contradiction))) | fail)) <;> try (exfalso; omega))
              exact ⟨[], ([], 0, false), ⟨0, [], rfl, (fun e => by cases e), fun _ => rfl⟩, ⟨w_1, w_2, rfl⟩⟩
            | some p =>
              obtain ⟨n1, L⟩ := p
              rw [ha] at a1
              ((repeat' (first | refine stp ?_ | ((refine w_E (a1) rfl rfl rfl rfl rfl rfl rfl ft rfl ?_); rintro v Hout n1 ⟨new, cap1, hnew, rfl, rfl, rfl⟩) | (refine stq ?_ ?_ <;> (intro hc; ((try simp at hc) <;> try contradiction))) | fail)) <;> try (exfalso; omega))
              exact ⟨[], (new, cap1, true), ⟨_, L, hnew, fun _ => rfl, fun e => by cases e⟩, ⟨w_1, w_2, rfl⟩⟩
          · rintro ⟨new, capA, one⟩ ⟨n, L, hF, hone, hnone⟩
            dsimp only at hF hone hnone ⊢
            refine awp_cutR 11 hE (fun z : Nat × Nat × Bool => z.2.2 = true → ∃ m B, autO r' k' h = some (m, B) ∧ z.1 = B.length) (fun z => [(0, vS 1 1 0 bs.length c), (3, .one (.ptr 4 3 0 0)), (6, vB fo), (11, .one (.sl 6 3 0 new.length capA)), (12, vB one), (13, .one (.sl 8 3 0 z.1 z.2.1)), (14, vB z.2.2)]) (fun z => [(1, .ro (.bytes bs)), (2, .own 3 cg (.ints g)), (4, .own 26 1 (.lit [.int r, .int k, .sl 2 1 0 g.length cg])), (6, .own 26 capA (.mats false new)), (7, .tok 3 false (new.map fun m => m.2.2))]) 9 ?_ ?_
            · cases ha : autO r' k' h with
              | none =>
                rw [ha] at a2
                ((repeat' (first | refine stp ?_ | ((refine w_E (a2) rfl rfl rfl rfl rfl rfl rfl ft rfl ?_); rintro v Hout n1 ⟨rfl, rfl, rfl⟩) | (refine stq ?_ ?_ <;> (intro hc; ((try simp at hc) <;> try contradiction))) | fail)) <;> try (exfalso; omega))
                exact ⟨[], (0, 0, false), (fun e => by cases e), ⟨w_1, w_2, rfl⟩⟩
              | some p =>
                obtain ⟨n1, L1⟩ := p
                rw [ha] at a2
                ((repeat' (first | refine stp ?_ | ((refine w_E (a2) rfl rfl rfl rfl rfl rfl rfl ft rfl ?_); rintro v Hout n1 ⟨newB, capB, hnewB, rfl, rfl, rfl⟩) | (refine stq ?_ ?_ <;> (intro hc; ((try simp at hc) <;> try contradiction))) | fail)) <;> try (exfalso; omega))
                exact ⟨[], (newB.length, capB, true), (fun _ => ⟨_, L1, rfl, hnewB.len⟩), ⟨w_1, w_2, rfl⟩⟩
            · rintro ⟨nb, capB, two⟩ htwo
              dsimp only at htwo ⊢
              have hlens : fo = true → one = true → two = true → new.length = nb := fun e1 e2 e3 => by
                obtain ⟨n3, x3, ho⟩ := hfo e1
                obtain ⟨m3, B3, hB, e⟩ := htwo e3
                have := aut_same hg10 ho (hone e2) hB
                have := hF.len
                omega
              refine awp_cut 12 hE (fun _ : Unit => True) (fun _ => [(0, vS 1 1 0 bs.length c), (3, .one (.ptr 4 3 0 0)), (11, .one (.sl 6 3 0 new.length capA))]) (fun _ => [(1, .ro (.bytes bs)), (2, .own 3 cg (.ints g)), (4, .own 26 1 (.lit [.int r, .int k, .sl 2 1 0 g.length cg])), (6, .own 26 capA (.mats false new)), (7, .tok 3 false (new.map fun m => m.2.2))]) 8 ?_ ?_
              · cases fo <;> cases one <;> cases two
                all_goals have hl3 := hlens
                all_goals simp at hl3
                all_goals ((repeat' (first | refine stx ?_ | (refine stq ?_ ?_ <;> (intro hc; ((try simp at hc) <;> try contradiction))) | fail)) <;> try (exfalso; omega))
                all_goals exact ⟨[], (), trivial, ⟨w_1, w_2, rfl⟩⟩
              · rintro ⟨⟩ -
                ((first | refine awpL_ghost (Ghost.tell 6 7 (.mats true new) rfl rfl rfl matE_mem) ?_ | refine awp_ghost (Ghost.tell 6 7 (.mats true new) rfl rfl rfl matE_mem) ?_ | refine awpH_ghost (Ghost.tell 6 7 (.mats true new) rfl rfl rfl matE_mem) ?_ | refine awpHop_ghost (Ghost.tell 6 7 (.mats true new) rfl rfl rfl matE_mem) ?_); rintro _ _ ⟨rfl, rfl⟩)
                have hLO : new.length ≠ 0 → autO r k g = some (n, L) := fun e => by
                  cases one with
                  | true => exact hone rfl
                  | false => rw [hnone rfl] at hF; exact absurd hF.len e
                have hnl : new.length ≤ 200 := by
                  by_cases e : new.length = 0
                  · omega
                  · have := (aut_len (hLO e)).2.1
                    have := hF.len
                    omega
                clear hlens hone hnone hfo htwo
                refine awp_cut 14 hE (fun _ : Unit => True) (fun _ => [(0, vS 1 1 0 bs.length c), (3, .one (.ptr 4 3 0 0))]) (fun _ => [(1, .ro (.bytes bs)), (2, .own 3 cg (.ints g)), (4, .own 26 1 (.lit [.int r, .int k, .sl 2 1 0 g.length cg]))]) 5 ?_ ?_
                rotate_left
                · rintro ⟨⟩ -
                  clear hLO hnl hF
                  obtain ⟨nn, hn6, hnn⟩ : ∃ nn : Nat, nn ≤ 6 ∧ (if 0 < (if 6 < r then 6 else r) then (if 6 < r then 6 else r) else 0) = (nn : Int) := by
                    refine ⟨(if 0 < (if 6 < r then 6 else r) then (if 6 < r then 6 else r) else 0).toNat, ?_, ?_⟩
                    all_goals
                      repeat' split
                      all_goals omega
                  ((repeat' (first | refine stp ?_ | (refine stq ?_ ?_ <;> (intro hc; ((try simp at hc) <;> try contradiction))) | fail)) <;> try (exfalso; omega))
                  rw [hnn]
                  (refine w_E (d_mix bs c nn hby hn6 hl) rfl rfl rfl rfl rfl rfl rfl ft rfl ?_)
                  rintro v Hout n1 ⟨us, cu, hu, hcu, hbu, hdu, rfl, rfl, rfl⟩
                  have hnn6 := Nat.mul_le_mul hn6 hn6
                  have hz := d_chgI r k nn nn g us cg cu hg1 (by omega)
                  rw [hu] at hz
                  cases hC : chgZ r k g nn nn us with
                  | none =>
                    rw [hC] at hz
                    have i3 := d_isoOI 0 0 r k [] g 0 cg (by simp) hg1 (Nat.le_refl _) hcg
                    cases hO : isoO 0 0 [] r k g with
                    | none =>
                      rw [hO] at i3
                      ((repeat' (first | refine stp ?_ | ((refine w_E (hz) rfl rfl rfl rfl rfl rfl rfl ft rfl ?_); rintro v Hout n1 ⟨rfl, rfl, rfl⟩) | ((refine w_E (i3) rfl rfl rfl rfl rfl rfl rfl ft rfl ?_); rintro v Hout n1 ⟨rfl, rfl, rfl⟩) | (refine stq ?_ ?_ <;> (intro hc; ((try simp at hc) <;> try contradiction))) | fail)) <;> try (exfalso; omega))
                      all_goals refine fin_ret rfl w_3 (rfl) rfl
                    | some o =>
                      cases o with
                      | none =>
                        rw [hO] at i3
                        ((repeat' (first | refine stp ?_ | ((refine w_E (hz) rfl rfl rfl rfl rfl rfl rfl ft rfl ?_); rintro v Hout n1 ⟨rfl, rfl, rfl⟩) | ((refine w_E (i3) rfl rfl rfl rfl rfl rfl rfl ft rfl ?_); rintro v Hout n1 ⟨rfl, rfl, rfl⟩) | (refine stq ?_ ?_ <;> (intro hc; ((try simp at hc) <;> try contradiction))) | fail)) <;> try (exfalso; omega))
                        all_goals refine fin_ret rfl w_3 (rfl) rfl
                      | some q =>
                        obtain ⟨n2, x2⟩ := q
                        rw [hO] at i3
                        ((repeat' (first | refine stp ?_ | ((refine w_E (hz) rfl rfl rfl rfl rfl rfl rfl ft rfl ?_); rintro v Hout n1 ⟨rfl, rfl, rfl⟩) | ((refine w_E (i3) rfl rfl rfl rfl rfl rfl rfl ft rfl ?_); rintro v Hout n1 ⟨cap2, rfl, rfl, rfl⟩) | (refine stq ?_ ?_ <;> (intro hc; ((try simp at hc) <;> try contradiction))) | fail)) <;> try (exfalso; omega))
                        all_goals refine fin_ret rfl w_3 (rfl) rfl
                  | some z =>
                    have hz576 := chgZ_len hC
                    rw [hC] at hz
                    have i3 := fun cz h => d_isoOI nn nn r k z g cz cg (by omega) hg1 h hcg
                    have hdf := d_defS r k g cg hg1
                    cases hO : isoO nn nn z r k g with
                    | none =>
                      rw [hO] at i3
                      ((repeat' (first | refine stp ?_ | ((refine w_E (hz) rfl rfl rfl rfl rfl rfl rfl ft rfl ?_); rintro v Hout n1 ⟨cz, hcz, rfl, rfl, rfl⟩) | ((refine w_E (i3 _ hcz) rfl rfl rfl rfl rfl rfl rfl ft rfl ?_); rintro v Hout n1 ⟨rfl, rfl, rfl⟩) | (refine stq ?_ ?_ <;> (intro hc; ((try simp at hc) <;> try contradiction))) | fail)) <;> try (exfalso; omega))
                      all_goals refine fin_ret rfl w_3 (rfl) rfl
                    | some o =>
                      cases o with
                      | none =>
                        have hD : defB r k g = false := by
                          cases hd : defB r k g
                          · rfl
                          · exact absurd hO (mix_there hg10 hd hu (fun _ => hdu) hC)
                        rw [hO] at i3
                        rw [hD] at hdf
                        ((repeat' (first | refine stp ?_ | ((refine w_E (hz) rfl rfl rfl rfl rfl rfl rfl ft rfl ?_); rintro v Hout n1 ⟨cz, hcz, rfl, rfl, rfl⟩) | ((refine w_E (i3 _ hcz) rfl rfl rfl rfl rfl rfl rfl ft rfl ?_); rintro v Hout n1 ⟨rfl, rfl, rfl⟩) | (first | refine w_z (hdf) rfl rfl rfl rfl rfl rfl rfl rfl ft rfl rfl ?_ | refine w_A (hdf) rfl rfl rfl rfl rfl rfl rfl rfl ft rfl rfl ?_) | (refine stq ?_ ?_ <;> (intro hc; ((try simp at hc) <;> try contradiction))) | fail)) <;> try (exfalso; omega))
                        all_goals refine fin_ret rfl w_3 (rfl) rfl
                      | some q =>
                        obtain ⟨n2, x2⟩ := q
                        rw [hO] at i3
                        cases hD : defB r k g
                        all_goals rw [hD] at hdf
                        all_goals ((repeat' (first | refine stp ?_ | ((refine w_E (hz) rfl rfl rfl rfl rfl rfl rfl ft rfl ?_); rintro v Hout n1 ⟨cz, hcz, rfl, rfl, rfl⟩) | ((refine w_E (i3 _ hcz) rfl rfl rfl rfl rfl rfl rfl ft rfl ?_); rintro v Hout n1 ⟨cap2, rfl, rfl, rfl⟩) | (first | refine w_z (hdf) rfl rfl rfl rfl rfl rfl rfl rfl ft rfl rfl ?_ | refine w_A (hdf) rfl rfl rfl rfl rfl rfl rfl rfl ft rfl rfl ?_) | (refine stq ?_ ?_ <;> (intro hc; ((try simp at hc) <;> try contradiction))) | fail)) <;> try (exfalso; omega))
                        all_goals refine fin_ret rfl w_3 (rfl) rfl
                ((repeat' (first | refine stp ?_ | (refine stq ?_ ?_ <;> (intro hc; ((try simp at hc) <;> try contradiction))) | fail)) <;> try (exfalso; omega))
                refine w_G hE (fun i : Nat => i ≤ new.length) (fun i => new.length - i) (fun i => [(0, vS 1 1 0 bs.length c), (3, .one (.ptr 4 3 0 0)), (11, .one (.sl 6 3 0 new.length capA)), (15, vI i)]) (fun _ => [(1, .ro (.bytes bs)), (2, .own 3 cg (.ints g)), (4, .own 26 1 (.lit [.int r, .int k, .sl 2 1 0 g.length cg])), (6, .own 26 capA (.mats true new)), (7, .tok 3 false (new.map fun m => m.2.2))]) 8 [] 0 (Nat.zero_le _) ⟨w_1, w_2, rfl⟩ ?_
                intro i hi
                by_cases hgo : i < new.length ∧ i < 6
                · obtain ⟨g1, g2⟩ := hgo
                  have hL := hLO (by omega)
                  have e1 : 0 + (i : Int).toNat = i := by omega
                  have e2 : 0 + ((new.length : Int) - 1).toNat = new.length - 1 := by omega
                  obtain ⟨p1, p2, p3⟩ := hF.at g1
                  obtain ⟨l1, l2, l3⟩ := hF.at (j := new.length - 1) (by omega)
                  rw [← e1] at p1 p2 p3
                  rw [← e2] at l1 l2 l3
                  obtain ⟨n6, -, hall⟩ := aut_len hL
                  have hnn := Nat.mul_le_mul n6 n6
                  have hA1 : (new.getD (0 + (i : Int).toNat) matE).2.2.xs.length ≤ 1099511627776 := by have := hall _ p3; omega
                  have hB1 : (new.getD (0 + ((new.length : Int) - 1).toNat) matE).2.2.xs.length ≤ 1099511627776 := by have := hall _ l3; omega
                  have bi := fun ca => d_isoI r k r k (new.getD (0 + (i : Int).toNat) matE).1 (new.getD (0 + (i : Int).toNat) matE).2.1 g g (new.getD (0 + (i : Int).toNat) matE).2.2.xs cg cg ca hg1 hg1 hA1
                  have eb : isoB r k g r k g (new.getD (0 + (i : Int).toNat) matE).1 (new.getD (0 + (i : Int).toNat) matE).2.1 (new.getD (0 + (i : Int).toNat) matE).2.2.xs = true := by
                    rw [p1, p2]; exact aut_good hg10 hL p3
                  rw [eb] at bi
                  have hm := fun ca cb => d_mulI (new.getD (0 + (i : Int).toNat) matE).1 (new.getD (0 + (i : Int).toNat) matE).2.1 (new.getD (0 + ((new.length : Int) - 1).toNat) matE).1 (new.getD (0 + ((new.length : Int) - 1).toNat) matE).2.1 (new.getD (0 + (i : Int).toNat) matE).2.2.xs (new.getD (0 + ((new.length : Int) - 1).toNat) matE).2.2.xs ca cb hA1 hB1
                  cases hM : mulZ (new.getD (0 + (i : Int).toNat) matE).1 (new.getD (0 + (i : Int).toNat) matE).2.1 (new.getD (0 + ((new.length : Int) - 1).toNat) matE).1 (new.getD (0 + ((new.length : Int) - 1).toNat) matE).2.1 (new.getD (0 + (i : Int).toNat) matE).2.2.xs (new.getD (0 + ((new.length : Int) - 1).toNat) matE).2.2.xs with
                  | none =>
                    rw [hM] at hm
                    ((repeat' (first | (refine awp_cutR 17 hE (fun _ : Unit => True) (fun _ => [(0, vS 1 1 0 bs.length c), (3, .one (.ptr 4 3 0 0)), (11, .one (.sl 6 3 0 new.length capA)), (15, vI i), (16, .one (.ptr 8 3 0 0)), (17, vB false)]) (fun _ => [(1, .ro (.bytes bs)), (2, .own 3 cg (.ints g)), (4, .own 26 1 (.lit [.int r, .int k, .sl 2 1 0 g.length cg])), (6, .own 26 capA (.mats true new)), (7, .tok 3 false (new.map fun m => m.2.2)), (8, .own 26 1 (.lit zeroM))]) 9 ?_ ?_) | refine stp ?_ | (refine stq ?_ ?_ <;> (intro hc; ((try simp at hc) <;> try contradiction))) | fail)) <;> try (exfalso; omega))
                    · refine awp_held TM [] sb rfl (fun ρs => ?_)
                      refine zt0 ?_
                      refine zt1 ?_
                      refine zt2 ?_
                      refine zt4 ?_
                      refine zt5 ?_
                      refine zt6 ?_
                      refine zt7 ?_
                      refine zt8 ?_
                      refine w_u [3, 9, 14] kr rfl ⟨?_, ?_, ?_, trivial⟩
                      first | (refine zho ?_) | (refine w_F _ (hm _ _) rfl rfl rfl rfl rfl rfl rfl rfl ft rfl rfl ?_; rintro v Hout n1 ⟨rfl, rfl, rfl⟩; refine ⟨sb, ?_⟩)
                      refine w_u [9, 14] kr rfl ⟨?_, ?_, trivial⟩
                      first | (refine zho ?_) | (refine w_F _ (hm _ _) rfl rfl rfl rfl rfl rfl rfl rfl ft rfl rfl ?_; rintro v Hout n1 ⟨rfl, rfl, rfl⟩; refine ⟨sb, ?_⟩)
                      refine w_u [10, 14] kr rfl ⟨?_, ?_, trivial⟩
                      first | (refine zho ?_) | (refine w_F _ (hm _ _) rfl rfl rfl rfl rfl rfl rfl rfl ft rfl rfl ?_; rintro v Hout n1 ⟨rfl, rfl, rfl⟩; refine ⟨sb, ?_⟩)
                      refine zt11 ?_
                      refine zt12 ?_
                      refine zt13 ?_
                      refine w_u [14] kr rfl ⟨?_, trivial⟩
                      first | (refine zho ?_) | (refine w_F _ (hm _ _) rfl rfl rfl rfl rfl rfl rfl rfl ft rfl rfl ?_; rintro v Hout n1 ⟨rfl, rfl, rfl⟩; refine ⟨sb, ?_⟩)
                      refine w_u [15] kr rfl ⟨?_, trivial⟩
                      first | (refine zho ?_) | (refine w_F _ (hm _ _) rfl rfl rfl rfl rfl rfl rfl rfl ft rfl rfl ?_; rintro v Hout n1 ⟨rfl, rfl, rfl⟩; refine ⟨sb, ?_⟩)
                      refine zt16 ?_
                      refine w_v kr ?_
                      rotate_left
                      first | (refine zho ?_) | (refine w_F _ (hm _ _) rfl rfl rfl rfl rfl rfl rfl rfl ft rfl rfl ?_; rintro v Hout n1 ⟨rfl, rfl, rfl⟩; refine ⟨sb, ?_⟩)
                      refine w_u [10] kr rfl ⟨?_, trivial⟩
                      first | (refine zho ?_) | (refine w_F _ (hm _ _) rfl rfl rfl rfl rfl rfl rfl rfl ft rfl rfl ?_; rintro v Hout n1 ⟨rfl, rfl, rfl⟩; refine ⟨sb, ?_⟩)
                      refine zt11 ?_
                      refine zt12 ?_
                      refine zt13 ?_
                      refine w_u [15] kr rfl ⟨?_, trivial⟩
                      first | (refine zho ?_) | (refine w_F _ (hm _ _) rfl rfl rfl rfl rfl rfl rfl rfl ft rfl rfl ?_; rintro v Hout n1 ⟨rfl, rfl, rfl⟩; refine ⟨sb, ?_⟩)
                      refine zt16 ?_
                      refine w_v kr ?_
                      rotate_left
                      first | (refine zho ?_) | (refine w_F _ (hm _ _) rfl rfl rfl rfl rfl rfl rfl rfl ft rfl rfl ?_; rintro v Hout n1 ⟨rfl, rfl, rfl⟩; refine ⟨sb, ?_⟩)
                      refine w_u [9] kr rfl ⟨?_, trivial⟩
                      first | (refine zho ?_) | (refine w_F _ (hm _ _) rfl rfl rfl rfl rfl rfl rfl rfl ft rfl rfl ?_; rintro v Hout n1 ⟨rfl, rfl, rfl⟩; refine ⟨sb, ?_⟩)
                      refine w_u [10] kr rfl ⟨?_, trivial⟩
                      first | (refine zho ?_) | (refine w_F _ (hm _ _) rfl rfl rfl rfl rfl rfl rfl rfl ft rfl rfl ?_; rintro v Hout n1 ⟨rfl, rfl, rfl⟩; refine ⟨sb, ?_⟩)
                      refine zt11 ?_
                      refine zt12 ?_
                      refine zt13 ?_
                      refine w_u [15] kr rfl ⟨?_, trivial⟩
                      first | (refine zho ?_) | (refine w_F _ (hm _ _) rfl rfl rfl rfl rfl rfl rfl rfl ft rfl rfl ?_; rintro v Hout n1 ⟨rfl, rfl, rfl⟩; refine ⟨sb, ?_⟩)
                      refine zt16 ?_
                      refine w_v kr ?_
                      rotate_left
                      first | (refine zho ?_) | (refine w_F _ (hm _ _) rfl rfl rfl rfl rfl rfl rfl rfl ft rfl rfl ?_; rintro v Hout n1 ⟨rfl, rfl, rfl⟩; refine ⟨sb, ?_⟩)
                      refine w_u [3, 14] kr rfl ⟨?_, ?_, trivial⟩
                      first | (refine zho ?_) | (refine w_F _ (hm _ _) rfl rfl rfl rfl rfl rfl rfl rfl ft rfl rfl ?_; rintro v Hout n1 ⟨rfl, rfl, rfl⟩; refine ⟨sb, ?_⟩)
                      refine w_u [10, 14] kr rfl ⟨?_, ?_, trivial⟩
                      first | (refine zho ?_) | (refine w_F _ (hm _ _) rfl rfl rfl rfl rfl rfl rfl rfl ft rfl rfl ?_; rintro v Hout n1 ⟨rfl, rfl, rfl⟩; refine ⟨sb, ?_⟩)
                      refine zt11 ?_
                      refine zt12 ?_
                      refine zt13 ?_
                      refine w_u [14] kr rfl ⟨?_, trivial⟩
                      first | (refine zho ?_) | (refine w_F _ (hm _ _) rfl rfl rfl rfl rfl rfl rfl rfl ft rfl rfl ?_; rintro v Hout n1 ⟨rfl, rfl, rfl⟩; refine ⟨sb, ?_⟩)
                      refine w_u [15] kr rfl ⟨?_, trivial⟩
                      first | (refine zho ?_) | (refine w_F _ (hm _ _) rfl rfl rfl rfl rfl rfl rfl rfl ft rfl rfl ?_; rintro v Hout n1 ⟨rfl, rfl, rfl⟩; refine ⟨sb, ?_⟩)
                      refine zt16 ?_
                      refine w_v kr ?_
                      rotate_left
                      first | (refine zho ?_) | (refine w_F _ (hm _ _) rfl rfl rfl rfl rfl rfl rfl rfl ft rfl rfl ?_; rintro v Hout n1 ⟨rfl, rfl, rfl⟩; refine ⟨sb, ?_⟩)
                      refine w_u [10] kr rfl ⟨?_, trivial⟩
                      first | (refine zho ?_) | (refine w_F _ (hm _ _) rfl rfl rfl rfl rfl rfl rfl rfl ft rfl rfl ?_; rintro v Hout n1 ⟨rfl, rfl, rfl⟩; refine ⟨sb, ?_⟩)
                      refine zt11 ?_
                      refine zt12 ?_
                      refine zt13 ?_
                      refine w_u [15] kr rfl ⟨?_, trivial⟩
                      first | (refine zho ?_) | (refine w_F _ (hm _ _) rfl rfl rfl rfl rfl rfl rfl rfl ft rfl rfl ?_; rintro v Hout n1 ⟨rfl, rfl, rfl⟩; refine ⟨sb, ?_⟩)
                      refine zt16 ?_
                      refine w_v kr ?_
                      rotate_left
                      first | (refine zho ?_) | (refine w_F _ (hm _ _) rfl rfl rfl rfl rfl rfl rfl rfl ft rfl rfl ?_; rintro v Hout n1 ⟨rfl, rfl, rfl⟩; refine ⟨sb, ?_⟩)
                      refine w_u [3] kr rfl ⟨?_, trivial⟩
                      first | (refine zho ?_) | (refine w_F _ (hm _ _) rfl rfl rfl rfl rfl rfl rfl rfl ft rfl rfl ?_; rintro v Hout n1 ⟨rfl, rfl, rfl⟩; refine ⟨sb, ?_⟩)
                      refine w_u [10] kr rfl ⟨?_, trivial⟩
                      first | (refine zho ?_) | (refine w_F _ (hm _ _) rfl rfl rfl rfl rfl rfl rfl rfl ft rfl rfl ?_; rintro v Hout n1 ⟨rfl, rfl, rfl⟩; refine ⟨sb, ?_⟩)
                      refine zt11 ?_
                      refine zt12 ?_
                      refine zt13 ?_
                      refine w_u [15] kr rfl ⟨?_, trivial⟩
                      first | (refine zho ?_) | (refine w_F _ (hm _ _) rfl rfl rfl rfl rfl rfl rfl rfl ft rfl rfl ?_; rintro v Hout n1 ⟨rfl, rfl, rfl⟩; refine ⟨sb, ?_⟩)
                      refine zt16 ?_
                      refine w_v kr ?_
                      rotate_left
                      first | (refine zho ?_) | (refine w_F _ (hm _ _) rfl rfl rfl rfl rfl rfl rfl rfl ft rfl rfl ?_; rintro v Hout n1 ⟨rfl, rfl, rfl⟩; refine ⟨sb, ?_⟩)
                      refine w_u [3, 9] kr rfl ⟨?_, ?_, trivial⟩
                      first | (refine zho ?_) | (refine w_F _ (hm _ _) rfl rfl rfl rfl rfl rfl rfl rfl ft rfl rfl ?_; rintro v Hout n1 ⟨rfl, rfl, rfl⟩; refine ⟨sb, ?_⟩)
                      refine w_u [9] kr rfl ⟨?_, trivial⟩
                      first | (refine zho ?_) | (refine w_F _ (hm _ _) rfl rfl rfl rfl rfl rfl rfl rfl ft rfl rfl ?_; rintro v Hout n1 ⟨rfl, rfl, rfl⟩; refine ⟨sb, ?_⟩)
                      refine w_u [10] kr rfl ⟨?_, trivial⟩
                      first | (refine zho ?_) | (refine w_F _ (hm _ _) rfl rfl rfl rfl rfl rfl rfl rfl ft rfl rfl ?_; rintro v Hout n1 ⟨rfl, rfl, rfl⟩; refine ⟨sb, ?_⟩)
                      refine zt11 ?_
                      refine zt12 ?_
                      refine zt13 ?_
                      refine w_u [15] kr rfl ⟨?_, trivial⟩
                      first | (refine zho ?_) | (refine w_F _ (hm _ _) rfl rfl rfl rfl rfl rfl rfl rfl ft rfl rfl ?_; rintro v Hout n1 ⟨rfl, rfl, rfl⟩; refine ⟨sb, ?_⟩)
                      refine zt16 ?_
                      refine w_v kr ?_
                      rotate_left
                      first | (refine zho ?_) | (refine w_F _ (hm _ _) rfl rfl rfl rfl rfl rfl rfl rfl ft rfl rfl ?_; rintro v Hout n1 ⟨rfl, rfl, rfl⟩; refine ⟨sb, ?_⟩)
                      refine w_u [3] kr rfl ⟨?_, trivial⟩
                      first | (refine zho ?_) | (refine w_F _ (hm _ _) rfl rfl rfl rfl rfl rfl rfl rfl ft rfl rfl ?_; rintro v Hout n1 ⟨rfl, rfl, rfl⟩; refine ⟨sb, ?_⟩)
                      refine w_u [10] kr rfl ⟨?_, trivial⟩
                      first | (refine zho ?_) | (refine w_F _ (hm _ _) rfl rfl rfl rfl rfl rfl rfl rfl ft rfl rfl ?_; rintro v Hout n1 ⟨rfl, rfl, rfl⟩; refine ⟨sb, ?_⟩)
                      refine zt11 ?_
                      refine zt12 ?_
                      refine zt13 ?_
                      refine w_u [15] kr rfl ⟨?_, trivial⟩
                      first | (refine zho ?_) | (refine w_F _ (hm _ _) rfl rfl rfl rfl rfl rfl rfl rfl ft rfl rfl ?_; rintro v Hout n1 ⟨rfl, rfl, rfl⟩; refine ⟨sb, ?_⟩)
                      refine zt16 ?_
                      refine w_v kr ?_
                      rotate_left
                      all_goals ((repeat' (first | refine stp ?_ | (refine stq ?_ ?_ <;> (intro hc; ((try simp at hc) <;> try contradiction))) | fail)) <;> try (exfalso; omega))
                      · exact ⟨[(8, 10)], (), trivial, ⟨w_1, w_2, rfl⟩⟩
                      · exact ⟨[(8, 10)], (), trivial, ⟨w_1, w_2, rfl⟩⟩
                      · exact ⟨[(8, 9)], (), trivial, ⟨w_1, w_2, rfl⟩⟩
                      · exact ⟨[(8, 10)], (), trivial, ⟨w_1, w_2, rfl⟩⟩
                      · exact ⟨[(8, 10)], (), trivial, ⟨w_1, w_2, rfl⟩⟩
                      · exact ⟨[(8, 9)], (), trivial, ⟨w_1, w_2, rfl⟩⟩
                      · exact ⟨[], (), trivial, ⟨w_1, w_2, rfl⟩⟩
                      · exact ⟨[], (), trivial, ⟨w_1, w_2, rfl⟩⟩
                    · rintro ⟨⟩ -
                      ((repeat' (first | refine stp ?_ | (refine stq ?_ ?_ <;> (intro hc; ((try simp at hc) <;> try contradiction))) | fail)) <;> try (exfalso; omega))
                      refine w_G hE (fun q : Nat × Bool => q.1 ≤ new.length) (fun q => new.length - q.1) (fun q => [(0, vS 1 1 0 bs.length c), (3, .one (.ptr 4 3 0 0)), (11, .one (.sl 6 3 0 new.length capA)), (15, vI i), (16, .one (.ptr 8 3 0 0)), (17, vB false), (18, vB q.2), (19, vI q.1)]) (fun _ => [(1, .ro (.bytes bs)), (2, .own 3 cg (.ints g)), (4, .own 26 1 (.lit [.int r, .int k, .sl 2 1 0 g.length cg])), (6, .own 26 capA (.mats true new)), (7, .tok 3 false (new.map fun m => m.2.2)), (8, .own 26 1 (.lit zeroM))]) 9 [] (0, false) (Nat.zero_le _) ⟨w_1, w_2, rfl⟩ ?_
                      rintro ⟨j, b⟩ hj
                      dsimp only at hj ⊢
                      by_cases hjl : j < new.length
                      · have f1 : 0 + (j : Int).toNat = j := by omega
                        obtain ⟨-, -, c3⟩ := hF.at hjl
                        rw [← f1] at c3
                        have hC1 : (new.getD (0 + (j : Int).toNat) matE).2.2.xs.length ≤ 1099511627776 := by have := hall _ c3; omega
                        have hs := fun ca => d_sameI (new.getD (0 + (j : Int).toNat) matE).1 (new.getD (0 + (j : Int).toNat) matE).2.1 0 0 (new.getD (0 + (j : Int).toNat) matE).2.2.xs [] ca 0 hC1 (by simp)
                        cases b
                        · ((repeat' (first | refine stp ?_ | (refine stq ?_ ?_ <;> (intro hc; ((try simp at hc) <;> try contradiction))) | fail)) <;> try (exfalso; omega))
                          refine awp_held TM [(8, _)] sb rfl (fun ρs => ?_)
                          refine zt0 ?_
                          refine zt1 ?_
                          first | (refine zt2 ?_) | (refine zp2 ?_) | ((refine awpH_split 2 rfl rfl rfl rfl (fun hc => ?_) (fun hc => ?_) <;> try simp at hc) <;> (first | (refine zt2 ?_) | (refine zp2 ?_)))
                          first | (refine zt3 ?_) | (refine zp3 ?_) | ((refine awpH_split 3 rfl rfl rfl rfl (fun hc => ?_) (fun hc => ?_) <;> try simp at hc) <;> (first | (refine zt3 ?_) | (refine zp3 ?_)))
                          first | (refine zt4 ?_) | (refine zp4 ?_) | ((refine awpH_split 4 rfl rfl rfl rfl (fun hc => ?_) (fun hc => ?_) <;> try simp at hc) <;> (first | (refine zt4 ?_) | (refine zp4 ?_)))
                          first | (refine zt6 ?_) | (refine zp6 ?_) | ((refine awpH_split 6 rfl rfl rfl rfl (fun hc => ?_) (fun hc => ?_) <;> try simp at hc) <;> (first | (refine zt6 ?_) | (refine zp6 ?_)))
                          first | (refine awpH_pass 5 rfl kr kr kr nh rfl rfl ?_) | (refine w_u [5] kr rfl ⟨?_, trivial⟩; first | (refine zho ?_) | refine w_B _ (hs _) rfl rfl rfl rfl rfl rfl rfl rfl rfl ft rfl rfl sb rfl ?_)
                          first | (refine awpH_pass 7 rfl kr kr kr nh rfl rfl ?_) | (refine w_u [7] kr rfl ⟨?_, trivial⟩; first | (refine zho ?_) | refine w_B _ (hs _) rfl rfl rfl rfl rfl rfl rfl rfl rfl ft rfl rfl sb rfl ?_)
                          refine zt8 ?_
                          refine zt9 ?_
                          refine w_v kr ?_
                          rotate_left
                          all_goals ((repeat' (first | refine stp ?_ | (refine stq ?_ ?_ <;> (intro hc; ((try simp at hc) <;> try contradiction))) | fail)) <;> try (exfalso; omega))
                          all_goals exact ⟨[], (j + 1, _), hjl, w_4, ⟨w_1, w_2, rfl⟩⟩
                        · ((repeat' (first | refine stp ?_ | (refine stq ?_ ?_ <;> (intro hc; ((try simp at hc) <;> try contradiction))) | fail)) <;> try (exfalso; omega))
                          refine awp_held TM [(8, _)] sb rfl (fun ρs => ?_)
                          refine zt0 ?_
                          refine zt1 ?_
                          first | (refine zt2 ?_) | (refine zp2 ?_) | ((refine awpH_split 2 rfl rfl rfl rfl (fun hc => ?_) (fun hc => ?_) <;> try simp at hc) <;> (first | (refine zt2 ?_) | (refine zp2 ?_)))
                          first | (refine zt3 ?_) | (refine zp3 ?_) | ((refine awpH_split 3 rfl rfl rfl rfl (fun hc => ?_) (fun hc => ?_) <;> try simp at hc) <;> (first | (refine zt3 ?_) | (refine zp3 ?_)))
                          first | (refine zt4 ?_) | (refine zp4 ?_) | ((refine awpH_split 4 rfl rfl rfl rfl (fun hc => ?_) (fun hc => ?_) <;> try simp at hc) <;> (first | (refine zt4 ?_) | (refine zp4 ?_)))
                          first | (refine zt6 ?_) | (refine zp6 ?_) | ((refine awpH_split 6 rfl rfl rfl rfl (fun hc => ?_) (fun hc => ?_) <;> try simp at hc) <;> (first | (refine zt6 ?_) | (refine zp6 ?_)))
                          first | (refine awpH_pass 5 rfl kr kr kr nh rfl rfl ?_) | (refine w_u [5] kr rfl ⟨?_, trivial⟩; first | (refine zho ?_) | refine w_B _ (hs _) rfl rfl rfl rfl rfl rfl rfl rfl rfl ft rfl rfl sb rfl ?_)
                          first | (refine awpH_pass 7 rfl kr kr kr nh rfl rfl ?_) | (refine w_u [7] kr rfl ⟨?_, trivial⟩; first | (refine zho ?_) | refine w_B _ (hs _) rfl rfl rfl rfl rfl rfl rfl rfl rfl ft rfl rfl sb rfl ?_)
                          refine zt8 ?_
                          refine zt9 ?_
                          refine w_v kr ?_
                          rotate_left
                          all_goals ((repeat' (first | refine stp ?_ | (refine stq ?_ ?_ <;> (intro hc; ((try simp at hc) <;> try contradiction))) | fail)) <;> try (exfalso; omega))
                          all_goals exact ⟨[], (j + 1, true), hjl, w_4, ⟨w_1, w_2, rfl⟩⟩
                      · obtain rfl : j = new.length := by omega
                        ((repeat' (first | refine stp ?_ | (refine stq ?_ ?_ <;> (intro hc; ((try simp at hc) <;> try contradiction))) | fail)) <;> try (exfalso; omega))
                        refine awp_held TM [(4, _)] sb rfl (fun ρs => ?_)
                        refine zt0 ?_
                        refine zt1 ?_
                        first | (refine zt2 ?_) | (refine zp2 ?_) | ((refine awpH_split 2 rfl rfl rfl rfl (fun hc => ?_) (fun hc => ?_) <;> try simp at hc) <;> (first | (refine zt2 ?_) | (refine zp2 ?_)))
                        first | (refine zt3 ?_) | (refine zp3 ?_) | ((refine awpH_split 3 rfl rfl rfl rfl (fun hc => ?_) (fun hc => ?_) <;> try simp at hc) <;> (first | (refine zt3 ?_) | (refine zp3 ?_)))
                        refine zt4 ?_
                        refine zt5 ?_
                        first | (refine zt6 ?_) | (refine zp6 ?_) | ((refine awpH_split 6 rfl rfl rfl rfl (fun hc => ?_) (fun hc => ?_) <;> try simp at hc) <;> (first | (refine zt6 ?_) | (refine zp6 ?_)))
                        first | (refine zt7 ?_) | (refine zp7 ?_) | ((refine awpH_split 7 rfl rfl rfl rfl (fun hc => ?_) (fun hc => ?_) <;> try simp at hc) <;> (first | (refine zt7 ?_) | (refine zp7 ?_)))
                        first | (refine zt8 ?_) | (refine zp8 ?_) | ((refine awpH_split 8 rfl rfl rfl rfl (fun hc => ?_) (fun hc => ?_) <;> try simp at hc) <;> (first | (refine zt8 ?_) | (refine zp8 ?_)))
                        first | (refine zt9 ?_) | (refine zp9 ?_) | ((refine awpH_split 9 rfl rfl rfl rfl (fun hc => ?_) (fun hc => ?_) <;> try simp at hc) <;> (first | (refine zt9 ?_) | (refine zp9 ?_)))
                        first | (refine zt10 ?_) | (refine zp10 ?_) | ((refine awpH_split 10 rfl rfl rfl rfl (fun hc => ?_) (fun hc => ?_) <;> try simp at hc) <;> (first | (refine zt10 ?_) | (refine zp10 ?_)))
                        first | (refine awpH_pass 11 rfl kr kr kr nh rfl rfl ?_) | (refine w_u [11] kr rfl ⟨?_, trivial⟩; first | (refine zho ?_) | refine w_B _ (bi _) rfl rfl rfl rfl rfl rfl rfl rfl rfl ft rfl rfl sb rfl ?_)
                        first | (refine awpH_pass 12 rfl kr kr kr nh rfl rfl ?_) | (refine w_u [12] kr rfl ⟨?_, trivial⟩; first | (refine zho ?_) | refine w_B _ (bi _) rfl rfl rfl rfl rfl rfl rfl rfl rfl ft rfl rfl sb rfl ?_)
                        first | (refine zt13 ?_) | (refine zp13 ?_) | ((refine awpH_split 13 rfl rfl rfl rfl (fun hc => ?_) (fun hc => ?_) <;> try simp at hc) <;> (first | (refine zt13 ?_) | (refine zp13 ?_)))
                        refine zt14 ?_
                        refine w_v kr ?_
                        rotate_left
                        all_goals ((repeat' (first | refine stp ?_ | (refine stq ?_ ?_ <;> (intro hc; ((try simp at hc) <;> try contradiction))) | fail)) <;> try (exfalso; omega))
                        all_goals exact ⟨[], i + 1, by omega, w_4, ⟨w_1, w_2, rfl⟩⟩
                  | some p =>
                    rw [hM] at hm
                    have hpL := aut_prod hL p3 l3 (by rw [← hM, p1, p2, l1, l2])
                    have hp1 : p.length ≤ 1099511627776 := by have := hall _ hpL; omega
                    obtain ⟨t, ht, t1, t2, t3⟩ := hF.has hpL
                    have hin : hasM new (new.getD (0 + (i : Int).toNat) matE).1 (new.getD (0 + ((new.length : Int) - 1).toNat) matE).2.1 p new.length = true := hasM_of (j := t) (decide_eq_true ⟨by rw [t1, p1], by rw [t2, l2], t3⟩) ht
                    ((repeat' (first | (refine awp_cutR 17 hE (fun cp : Nat => p.length ≤ cp) (fun _ => [(0, vS 1 1 0 bs.length c), (3, .one (.ptr 4 3 0 0)), (11, .one (.sl 6 3 0 new.length capA)), (15, vI i), (16, .one (.ptr 9 3 0 0)), (17, vB true)]) (fun cp => [(1, .ro (.bytes bs)), (2, .own 3 cg (.ints g)), (4, .own 26 1 (.lit [.int r, .int k, .sl 2 1 0 g.length cg])), (6, .own 26 capA (.mats true new)), (7, .tok 3 false (new.map fun m => m.2.2)), (8, .own 3 cp (.ints p)), (9, .own 26 1 (.lit [.int (new.getD (0 + (i : Int).toNat) matE).1, .int (new.getD (0 + ((new.length : Int) - 1).toNat) matE).2.1, .sl 8 1 0 p.length cp]))]) 10 ?_ ?_) | refine stp ?_ | (refine stq ?_ ?_ <;> (intro hc; ((try simp at hc) <;> try contradiction))) | fail)) <;> try (exfalso; omega))
                    · refine awp_held TM [] sb rfl (fun ρs => ?_)
                      refine zt0 ?_
                      refine zt1 ?_
                      refine zt2 ?_
                      refine zt4 ?_
                      refine zt5 ?_
                      refine zt6 ?_
                      refine zt7 ?_
                      refine zt8 ?_
                      refine w_u [3, 9, 14] kr rfl ⟨?_, ?_, ?_, trivial⟩
                      first | (refine zho ?_) | (refine w_F _ (hm _ _) rfl rfl rfl rfl rfl rfl rfl rfl ft rfl rfl ?_; rintro v Hout n1 ⟨cp, hcp, rfl, rfl, rfl⟩; refine ⟨sb, ?_⟩)
                      refine w_u [9, 14] kr rfl ⟨?_, ?_, trivial⟩
                      first | (refine zho ?_) | (refine w_F _ (hm _ _) rfl rfl rfl rfl rfl rfl rfl rfl ft rfl rfl ?_; rintro v Hout n1 ⟨cp, hcp, rfl, rfl, rfl⟩; refine ⟨sb, ?_⟩)
                      refine w_u [10, 14] kr rfl ⟨?_, ?_, trivial⟩
                      first | (refine zho ?_) | (refine w_F _ (hm _ _) rfl rfl rfl rfl rfl rfl rfl rfl ft rfl rfl ?_; rintro v Hout n1 ⟨cp, hcp, rfl, rfl, rfl⟩; refine ⟨sb, ?_⟩)
                      refine zt11 ?_
                      refine zt12 ?_
                      refine zt13 ?_
                      refine w_u [14] kr rfl ⟨?_, trivial⟩
                      first | (refine zho ?_) | (refine w_F _ (hm _ _) rfl rfl rfl rfl rfl rfl rfl rfl ft rfl rfl ?_; rintro v Hout n1 ⟨cp, hcp, rfl, rfl, rfl⟩; refine ⟨sb, ?_⟩)
                      refine w_u [15] kr rfl ⟨?_, trivial⟩
                      first | (refine zho ?_) | (refine w_F _ (hm _ _) rfl rfl rfl rfl rfl rfl rfl rfl ft rfl rfl ?_; rintro v Hout n1 ⟨cp, hcp, rfl, rfl, rfl⟩; refine ⟨sb, ?_⟩)
                      refine zt16 ?_
                      refine w_v kr ?_
                      rotate_left
                      first | (refine zho ?_) | (refine w_F _ (hm _ _) rfl rfl rfl rfl rfl rfl rfl rfl ft rfl rfl ?_; rintro v Hout n1 ⟨cp, hcp, rfl, rfl, rfl⟩; refine ⟨sb, ?_⟩)
                      refine w_u [10] kr rfl ⟨?_, trivial⟩
                      first | (refine zho ?_) | (refine w_F _ (hm _ _) rfl rfl rfl rfl rfl rfl rfl rfl ft rfl rfl ?_; rintro v Hout n1 ⟨cp, hcp, rfl, rfl, rfl⟩; refine ⟨sb, ?_⟩)
                      refine zt11 ?_
                      refine zt12 ?_
                      refine zt13 ?_
                      refine w_u [15] kr rfl ⟨?_, trivial⟩
                      first | (refine zho ?_) | (refine w_F _ (hm _ _) rfl rfl rfl rfl rfl rfl rfl rfl ft rfl rfl ?_; rintro v Hout n1 ⟨cp, hcp, rfl, rfl, rfl⟩; refine ⟨sb, ?_⟩)
                      refine zt16 ?_
                      refine w_v kr ?_
                      rotate_left
                      first | (refine zho ?_) | (refine w_F _ (hm _ _) rfl rfl rfl rfl rfl rfl rfl rfl ft rfl rfl ?_; rintro v Hout n1 ⟨cp, hcp, rfl, rfl, rfl⟩; refine ⟨sb, ?_⟩)
                      refine w_u [9] kr rfl ⟨?_, trivial⟩
                      first | (refine zho ?_) | (refine w_F _ (hm _ _) rfl rfl rfl rfl rfl rfl rfl rfl ft rfl rfl ?_; rintro v Hout n1 ⟨cp, hcp, rfl, rfl, rfl⟩; refine ⟨sb, ?_⟩)
                      refine w_u [10] kr rfl ⟨?_, trivial⟩
                      first | (refine zho ?_) | (refine w_F _ (hm _ _) rfl rfl rfl rfl rfl rfl rfl rfl ft rfl rfl ?_; rintro v Hout n1 ⟨cp, hcp, rfl, rfl, rfl⟩; refine ⟨sb, ?_⟩)
                      refine zt11 ?_
                      refine zt12 ?_
                      refine zt13 ?_
                      refine w_u [15] kr rfl ⟨?_, trivial⟩
                      first | (refine zho ?_) | (refine w_F _ (hm _ _) rfl rfl rfl rfl rfl rfl rfl rfl ft rfl rfl ?_; rintro v Hout n1 ⟨cp, hcp, rfl, rfl, rfl⟩; refine ⟨sb, ?_⟩)
                      refine zt16 ?_
                      refine w_v kr ?_
                      rotate_left
                      first | (refine zho ?_) | (refine w_F _ (hm _ _) rfl rfl rfl rfl rfl rfl rfl rfl ft rfl rfl ?_; rintro v Hout n1 ⟨cp, hcp, rfl, rfl, rfl⟩; refine ⟨sb, ?_⟩)
                      refine w_u [3, 14] kr rfl ⟨?_, ?_, trivial⟩
                      first | (refine zho ?_) | (refine w_F _ (hm _ _) rfl rfl rfl rfl rfl rfl rfl rfl ft rfl rfl ?_; rintro v Hout n1 ⟨cp, hcp, rfl, rfl, rfl⟩; refine ⟨sb, ?_⟩)
                      refine w_u [10, 14] kr rfl ⟨?_, ?_, trivial⟩
                      first | (refine zho ?_) | (refine w_F _ (hm _ _) rfl rfl rfl rfl rfl rfl rfl rfl ft rfl rfl ?_; rintro v Hout n1 ⟨cp, hcp, rfl, rfl, rfl⟩; refine ⟨sb, ?_⟩)
                      refine zt11 ?_
                      refine zt12 ?_
                      refine zt13 ?_
                      refine w_u [14] kr rfl ⟨?_, trivial⟩
                      first | (refine zho ?_) | (refine w_F _ (hm _ _) rfl rfl rfl rfl rfl rfl rfl rfl ft rfl rfl ?_; rintro v Hout n1 ⟨cp, hcp, rfl, rfl, rfl⟩; refine ⟨sb, ?_⟩)
                      refine w_u [15] kr rfl ⟨?_, trivial⟩
                      first | (refine zho ?_) | (refine w_F _ (hm _ _) rfl rfl rfl rfl rfl rfl rfl rfl ft rfl rfl ?_; rintro v Hout n1 ⟨cp, hcp, rfl, rfl, rfl⟩; refine ⟨sb, ?_⟩)
                      refine zt16 ?_
                      refine w_v kr ?_
                      rotate_left
                      first | (refine zho ?_) | (refine w_F _ (hm _ _) rfl rfl rfl rfl rfl rfl rfl rfl ft rfl rfl ?_; rintro v Hout n1 ⟨cp, hcp, rfl, rfl, rfl⟩; refine ⟨sb, ?_⟩)
                      refine w_u [10] kr rfl ⟨?_, trivial⟩
                      first | (refine zho ?_) | (refine w_F _ (hm _ _) rfl rfl rfl rfl rfl rfl rfl rfl ft rfl rfl ?_; rintro v Hout n1 ⟨cp, hcp, rfl, rfl, rfl⟩; refine ⟨sb, ?_⟩)
                      refine zt11 ?_
                      refine zt12 ?_
                      refine zt13 ?_
                      refine w_u [15] kr rfl ⟨?_, trivial⟩
                      first | (refine zho ?_) | (refine w_F _ (hm _ _) rfl rfl rfl rfl rfl rfl rfl rfl ft rfl rfl ?_; rintro v Hout n1 ⟨cp, hcp, rfl, rfl, rfl⟩; refine ⟨sb, ?_⟩)
                      refine zt16 ?_
                      refine w_v kr ?_
                      rotate_left
                      first | (refine zho ?_) | (refine w_F _ (hm _ _) rfl rfl rfl rfl rfl rfl rfl rfl ft rfl rfl ?_; rintro v Hout n1 ⟨cp, hcp, rfl, rfl, rfl⟩; refine ⟨sb, ?_⟩)
                      refine w_u [3] kr rfl ⟨?_, trivial⟩
                      first | (refine zho ?_) | (refine w_F _ (hm _ _) rfl rfl rfl rfl rfl rfl rfl rfl ft rfl rfl ?_; rintro v Hout n1 ⟨cp, hcp, rfl, rfl, rfl⟩; refine ⟨sb, ?_⟩)
                      refine w_u [10] kr rfl ⟨?_, trivial⟩
                      first | (refine zho ?_) | (refine w_F _ (hm _ _) rfl rfl rfl rfl rfl rfl rfl rfl ft rfl rfl ?_; rintro v Hout n1 ⟨cp, hcp, rfl, rfl, rfl⟩; refine ⟨sb, ?_⟩)
                      refine zt11 ?_
                      refine zt12 ?_
                      refine zt13 ?_
                      refine w_u [15] kr rfl ⟨?_, trivial⟩
                      first | (refine zho ?_) | (refine w_F _ (hm _ _) rfl rfl rfl rfl rfl rfl rfl rfl ft rfl rfl ?_; rintro v Hout n1 ⟨cp, hcp, rfl, rfl, rfl⟩; refine ⟨sb, ?_⟩)
                      refine zt16 ?_
                      refine w_v kr ?_
                      rotate_left
                      first | (refine zho ?_) | (refine w_F _ (hm _ _) rfl rfl rfl rfl rfl rfl rfl rfl ft rfl rfl ?_; rintro v Hout n1 ⟨cp, hcp, rfl, rfl, rfl⟩; refine ⟨sb, ?_⟩)
                      refine w_u [3, 9] kr rfl ⟨?_, ?_, trivial⟩
                      first | (refine zho ?_) | (refine w_F _ (hm _ _) rfl rfl rfl rfl rfl rfl rfl rfl ft rfl rfl ?_; rintro v Hout n1 ⟨cp, hcp, rfl, rfl, rfl⟩; refine ⟨sb, ?_⟩)
                      refine w_u [9] kr rfl ⟨?_, trivial⟩
                      first | (refine zho ?_) | (refine w_F _ (hm _ _) rfl rfl rfl rfl rfl rfl rfl rfl ft rfl rfl ?_; rintro v Hout n1 ⟨cp, hcp, rfl, rfl, rfl⟩; refine ⟨sb, ?_⟩)
                      refine w_u [10] kr rfl ⟨?_, trivial⟩
                      first | (refine zho ?_) | (refine w_F _ (hm _ _) rfl rfl rfl rfl rfl rfl rfl rfl ft rfl rfl ?_; rintro v Hout n1 ⟨cp, hcp, rfl, rfl, rfl⟩; refine ⟨sb, ?_⟩)
                      refine zt11 ?_
                      refine zt12 ?_
                      refine zt13 ?_
                      refine w_u [15] kr rfl ⟨?_, trivial⟩
                      first | (refine zho ?_) | (refine w_F _ (hm _ _) rfl rfl rfl rfl rfl rfl rfl rfl ft rfl rfl ?_; rintro v Hout n1 ⟨cp, hcp, rfl, rfl, rfl⟩; refine ⟨sb, ?_⟩)
                      refine zt16 ?_
                      refine w_v kr ?_
                      rotate_left
                      first | (refine zho ?_) | (refine w_F _ (hm _ _) rfl rfl rfl rfl rfl rfl rfl rfl ft rfl rfl ?_; rintro v Hout n1 ⟨cp, hcp, rfl, rfl, rfl⟩; refine ⟨sb, ?_⟩)
                      refine w_u [3] kr rfl ⟨?_, trivial⟩
                      first | (refine zho ?_) | (refine w_F _ (hm _ _) rfl rfl rfl rfl rfl rfl rfl rfl ft rfl rfl ?_; rintro v Hout n1 ⟨cp, hcp, rfl, rfl, rfl⟩; refine ⟨sb, ?_⟩)
                      refine w_u [10] kr rfl ⟨?_, trivial⟩
                      first | (refine zho ?_) | (refine w_F _ (hm _ _) rfl rfl rfl rfl rfl rfl rfl rfl ft rfl rfl ?_; rintro v Hout n1 ⟨cp, hcp, rfl, rfl, rfl⟩; refine ⟨sb, ?_⟩)
                      refine zt11 ?_
                      refine zt12 ?_
                      refine zt13 ?_
                      refine w_u [15] kr rfl ⟨?_, trivial⟩
                      first | (refine zho ?_) | (refine w_F _ (hm _ _) rfl rfl rfl rfl rfl rfl rfl rfl ft rfl rfl ?_; rintro v Hout n1 ⟨cp, hcp, rfl, rfl, rfl⟩; refine ⟨sb, ?_⟩)
                      refine zt16 ?_
                      refine w_v kr ?_
                      rotate_left
                      all_goals ((repeat' (first | refine stp ?_ | (refine stq ?_ ?_ <;> (intro hc; ((try simp at hc) <;> try contradiction))) | fail)) <;> try (exfalso; omega))
                      · exact ⟨[(8, 10), (9, 11)], cp, hcp, ⟨w_1, w_2, rfl⟩⟩
                      · exact ⟨[(8, 11), (9, 10)], cp, hcp, ⟨w_1, w_2, rfl⟩⟩
                      · exact ⟨[(8, 11), (9, 9)], cp, hcp, ⟨w_1, w_2, rfl⟩⟩
                      · exact ⟨[(8, 10), (9, 11)], cp, hcp, ⟨w_1, w_2, rfl⟩⟩
                      · exact ⟨[(8, 11), (9, 10)], cp, hcp, ⟨w_1, w_2, rfl⟩⟩
                      · exact ⟨[(8, 11), (9, 9)], cp, hcp, ⟨w_1, w_2, rfl⟩⟩
                      · exact ⟨[(8, 11), (9, 8)], cp, hcp, ⟨w_1, w_2, rfl⟩⟩
                      · exact ⟨[(8, 11), (9, 8)], cp, hcp, ⟨w_1, w_2, rfl⟩⟩
                    · intro cp hcp
                      ((repeat' (first | refine stp ?_ | (refine stq ?_ ?_ <;> (intro hc; ((try simp at hc) <;> try contradiction))) | fail)) <;> try (exfalso; omega))
                      refine w_G hE (fun q : Nat × Bool => q.1 ≤ new.length ∧ q.2 = hasM new (new.getD (0 + (i : Int).toNat) matE).1 (new.getD (0 + ((new.length : Int) - 1).toNat) matE).2.1 p q.1) (fun q => new.length - q.1) (fun q => [(0, vS 1 1 0 bs.length c), (3, .one (.ptr 4 3 0 0)), (11, .one (.sl 6 3 0 new.length capA)), (15, vI i), (16, .one (.ptr 9 3 0 0)), (17, vB true), (18, vB q.2), (19, vI q.1)]) (fun _ => [(1, .ro (.bytes bs)), (2, .own 3 cg (.ints g)), (4, .own 26 1 (.lit [.int r, .int k, .sl 2 1 0 g.length cg])), (6, .own 26 capA (.mats true new)), (7, .tok 3 false (new.map fun m => m.2.2)), (8, .own 3 cp (.ints p)), (9, .own 26 1 (.lit [.int (new.getD (0 + (i : Int).toNat) matE).1, .int (new.getD (0 + ((new.length : Int) - 1).toNat) matE).2.1, .sl 8 1 0 p.length cp]))]) 10 [] (0, false) ⟨Nat.zero_le _, rfl⟩ ⟨w_1, w_2, rfl⟩ ?_
                      rintro ⟨j, b⟩ ⟨hj, hb⟩
                      dsimp only at hj hb ⊢
                      by_cases hjl : j < new.length
                      · have f1 : 0 + (j : Int).toNat = j := by omega
                        obtain ⟨-, -, c3⟩ := hF.at hjl
                        have hb2 : hasM new (new.getD (0 + (i : Int).toNat) matE).1 (new.getD (0 + ((new.length : Int) - 1).toNat) matE).2.1 p (j + 1) = (b || sameM (new.getD (0 + (j : Int).toNat) matE).1 (new.getD (0 + (j : Int).toNat) matE).2.1 (new.getD (0 + (i : Int).toNat) matE).1 (new.getD (0 + ((new.length : Int) - 1).toNat) matE).2.1 (new.getD (0 + (j : Int).toNat) matE).2.2.xs p) := by
                          rw [hb, f1]; rfl
                        rw [← f1] at c3
                        have hC1 : (new.getD (0 + (j : Int).toNat) matE).2.2.xs.length ≤ 1099511627776 := by have := hall _ c3; omega
                        have hs := fun ca => d_sameI (new.getD (0 + (j : Int).toNat) matE).1 (new.getD (0 + (j : Int).toNat) matE).2.1 (new.getD (0 + (i : Int).toNat) matE).1 (new.getD (0 + ((new.length : Int) - 1).toNat) matE).2.1 (new.getD (0 + (j : Int).toNat) matE).2.2.xs p ca cp hC1 hp1
                        cases b
                        · ((repeat' (first | refine stp ?_ | (refine stq ?_ ?_ <;> (intro hc; ((try simp at hc) <;> try contradiction))) | fail)) <;> try (exfalso; omega))
                          refine awp_held TM [(9, _)] sb rfl (fun ρs => ?_)
                          refine zt0 ?_
                          refine zt1 ?_
                          first | (refine zt2 ?_) | (refine zp2 ?_) | ((refine awpH_split 2 rfl rfl rfl rfl (fun hc => ?_) (fun hc => ?_) <;> try simp at hc) <;> (first | (refine zt2 ?_) | (refine zp2 ?_)))
                          first | (refine zt3 ?_) | (refine zp3 ?_) | ((refine awpH_split 3 rfl rfl rfl rfl (fun hc => ?_) (fun hc => ?_) <;> try simp at hc) <;> (first | (refine zt3 ?_) | (refine zp3 ?_)))
                          first | (refine zt4 ?_) | (refine zp4 ?_) | ((refine awpH_split 4 rfl rfl rfl rfl (fun hc => ?_) (fun hc => ?_) <;> try simp at hc) <;> (first | (refine zt4 ?_) | (refine zp4 ?_)))
                          first | (refine zt6 ?_) | (refine zp6 ?_) | ((refine awpH_split 6 rfl rfl rfl rfl (fun hc => ?_) (fun hc => ?_) <;> try simp at hc) <;> (first | (refine zt6 ?_) | (refine zp6 ?_)))
                          first | (refine awpH_pass 5 rfl kr kr kr nh rfl rfl ?_) | (refine w_u [5] kr rfl ⟨?_, trivial⟩; first | (refine zho ?_) | refine w_B _ (hs _) rfl rfl rfl rfl rfl rfl rfl rfl rfl ft rfl rfl sb rfl ?_)
                          first | (refine awpH_pass 7 rfl kr kr kr nh rfl rfl ?_) | (refine w_u [7] kr rfl ⟨?_, trivial⟩; first | (refine zho ?_) | refine w_B _ (hs _) rfl rfl rfl rfl rfl rfl rfl rfl rfl ft rfl rfl sb rfl ?_)
                          refine zt8 ?_
                          refine zt9 ?_
                          refine w_v kr ?_
                          rotate_left
                          all_goals ((repeat' (first | refine stp ?_ | (refine stq ?_ ?_ <;> (intro hc; ((try simp at hc) <;> try contradiction))) | fail)) <;> try (exfalso; omega))
                          all_goals exact ⟨[], (j + 1, _), ⟨hjl, hb2.symm⟩, w_4, ⟨w_1, w_2, rfl⟩⟩
                        · ((repeat' (first | refine stp ?_ | (refine stq ?_ ?_ <;> (intro hc; ((try simp at hc) <;> try contradiction))) | fail)) <;> try (exfalso; omega))
                          refine awp_held TM [(9, _)] sb rfl (fun ρs => ?_)
                          refine zt0 ?_
                          refine zt1 ?_
                          first | (refine zt2 ?_) | (refine zp2 ?_) | ((refine awpH_split 2 rfl rfl rfl rfl (fun hc => ?_) (fun hc => ?_) <;> try simp at hc) <;> (first | (refine zt2 ?_) | (refine zp2 ?_)))
                          first | (refine zt3 ?_) | (refine zp3 ?_) | ((refine awpH_split 3 rfl rfl rfl rfl (fun hc => ?_) (fun hc => ?_) <;> try simp at hc) <;> (first | (refine zt3 ?_) | (refine zp3 ?_)))
                          first | (refine zt4 ?_) | (refine zp4 ?_) | ((refine awpH_split 4 rfl rfl rfl rfl (fun hc => ?_) (fun hc => ?_) <;> try simp at hc) <;> (first | (refine zt4 ?_) | (refine zp4 ?_)))
                          first | (refine zt6 ?_) | (refine zp6 ?_) | ((refine awpH_split 6 rfl rfl rfl rfl (fun hc => ?_) (fun hc => ?_) <;> try simp at hc) <;> (first | (refine zt6 ?_) | (refine zp6 ?_)))
                          first | (refine awpH_pass 5 rfl kr kr kr nh rfl rfl ?_) | (refine w_u [5] kr rfl ⟨?_, trivial⟩; first | (refine zho ?_) | refine w_B _ (hs _) rfl rfl rfl rfl rfl rfl rfl rfl rfl ft rfl rfl sb rfl ?_)
                          first | (refine awpH_pass 7 rfl kr kr kr nh rfl rfl ?_) | (refine w_u [7] kr rfl ⟨?_, trivial⟩; first | (refine zho ?_) | refine w_B _ (hs _) rfl rfl rfl rfl rfl rfl rfl rfl rfl ft rfl rfl sb rfl ?_)
                          refine zt8 ?_
                          refine zt9 ?_
                          refine w_v kr ?_
                          rotate_left
                          all_goals ((repeat' (first | refine stp ?_ | (refine stq ?_ ?_ <;> (intro hc; ((try simp at hc) <;> try contradiction))) | fail)) <;> try (exfalso; omega))
                          all_goals exact ⟨[], (j + 1, true), ⟨hjl, hb2.symm⟩, w_4, ⟨w_1, w_2, rfl⟩⟩
                      · obtain rfl : j = new.length := by omega
                        rw [hin] at hb
                        subst hb
                        ((repeat' (first | refine stp ?_ | (refine stq ?_ ?_ <;> (intro hc; ((try simp at hc) <;> try contradiction))) | fail)) <;> try (exfalso; omega))
                        refine awp_held TM [(4, _)] sb rfl (fun ρs => ?_)
                        refine zt0 ?_
                        refine zt1 ?_
                        first | (refine zt2 ?_) | (refine zp2 ?_) | ((refine awpH_split 2 rfl rfl rfl rfl (fun hc => ?_) (fun hc => ?_) <;> try simp at hc) <;> (first | (refine zt2 ?_) | (refine zp2 ?_)))
                        first | (refine zt3 ?_) | (refine zp3 ?_) | ((refine awpH_split 3 rfl rfl rfl rfl (fun hc => ?_) (fun hc => ?_) <;> try simp at hc) <;> (first | (refine zt3 ?_) | (refine zp3 ?_)))
                        refine zt4 ?_
                        refine zt5 ?_
                        first | (refine zt6 ?_) | (refine zp6 ?_) | ((refine awpH_split 6 rfl rfl rfl rfl (fun hc => ?_) (fun hc => ?_) <;> try simp at hc) <;> (first | (refine zt6 ?_) | (refine zp6 ?_)))
                        first | (refine zt7 ?_) | (refine zp7 ?_) | ((refine awpH_split 7 rfl rfl rfl rfl (fun hc => ?_) (fun hc => ?_) <;> try simp at hc) <;> (first | (refine zt7 ?_) | (refine zp7 ?_)))
                        first | (refine zt8 ?_) | (refine zp8 ?_) | ((refine awpH_split 8 rfl rfl rfl rfl (fun hc => ?_) (fun hc => ?_) <;> try simp at hc) <;> (first | (refine zt8 ?_) | (refine zp8 ?_)))
                        first | (refine zt9 ?_) | (refine zp9 ?_) | ((refine awpH_split 9 rfl rfl rfl rfl (fun hc => ?_) (fun hc => ?_) <;> try simp at hc) <;> (first | (refine zt9 ?_) | (refine zp9 ?_)))
                        first | (refine zt10 ?_) | (refine zp10 ?_) | ((refine awpH_split 10 rfl rfl rfl rfl (fun hc => ?_) (fun hc => ?_) <;> try simp at hc) <;> (first | (refine zt10 ?_) | (refine zp10 ?_)))
                        first | (refine awpH_pass 11 rfl kr kr kr nh rfl rfl ?_) | (refine w_u [11] kr rfl ⟨?_, trivial⟩; first | (refine zho ?_) | refine w_B _ (bi _) rfl rfl rfl rfl rfl rfl rfl rfl rfl ft rfl rfl sb rfl ?_)
                        first | (refine awpH_pass 12 rfl kr kr kr nh rfl rfl ?_) | (refine w_u [12] kr rfl ⟨?_, trivial⟩; first | (refine zho ?_) | refine w_B _ (bi _) rfl rfl rfl rfl rfl rfl rfl rfl rfl ft rfl rfl sb rfl ?_)
                        first | (refine zt13 ?_) | (refine zp13 ?_) | ((refine awpH_split 13 rfl rfl rfl rfl (fun hc => ?_) (fun hc => ?_) <;> try simp at hc) <;> (first | (refine zt13 ?_) | (refine zp13 ?_)))
                        refine zt14 ?_
                        refine w_v kr ?_
                        rotate_left
                        all_goals ((repeat' (first | refine stp ?_ | (refine stq ?_ ?_ <;> (intro hc; ((try simp at hc) <;> try contradiction))) | fail)) <;> try (exfalso; omega))
                        all_goals exact ⟨[], i + 1, by omega, w_4, ⟨w_1, w_2, rfl⟩⟩
                · have hgo2 : ¬ (i : Int) < new.length ∨ ¬ (i : Int) < 6 := by omega
                  clear hLO hnl hF
                  ((repeat' (first | refine stp ?_ | (refine stq ?_ ?_ <;> (intro hc; ((try simp at hc) <;> try contradiction))) | fail)) <;> try (exfalso; omega))
                  all_goals exact ⟨[], (), trivial, ⟨w_1, w_2, rfl⟩⟩
end Go.Proofs.YtekpamojojfplaaGreat
