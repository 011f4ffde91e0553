/-
  CONTRACTS: the best point of a body, of both packages.
-/
import Derived.Test.YtbgeooalhoaemaabPtsI
import Derived.Test.YtbgeooalhoaemaaAm11
set_option linter.unusedVariables false
set_option linter.unusedSimpArgs false
namespace Go.Proofs.Ytbgeooalhoaemaa
open Go.RowKit

theorem ptsO_dim {r c side : Int} {xs bs : List Int} {L : List (List Int)} (h : ptsO r c xs bs side = some L) : (∃ b : Nat, c = b ∧ 1 ≤ b ∧ b ≤ 24 ∧ ∀ v ∈ L, v.length = b) ∧ L.length ≤ 4000 := by
  unfold ptsO at h
  split at h
  · rename_i hb
    simp only [Bool.and_eq_true, decide_eq_true_eq, bodyM] at hb
    obtain ⟨⟨⟨hco, _⟩, _⟩, hs⟩ := hb
    obtain ⟨a, b, rfl, rfl, ha, hb1, hb3, _, _⟩ := coneM_dims hco
    simp only [Int.toNat_natCast, Option.map_eq_some_iff] at h
    obtain ⟨M, hM, rfl⟩ := h
    have hok : okTo (List.replicate b (-side)) (List.replicate b side) (List.replicate b (-side)).length = true := by
      unfold boxO at hM
      split at hM
      · assumption
      · cases hM
    have hMe : M = boxTo (List.replicate b (-side)) (List.replicate b side) (List.replicate b (-side)).length := by
      unfold boxO at hM
      rw [if_pos hok] at hM; cases hM; rfl
    have hc4 := okTo_cnt hok
    have hbl := (box_len (fun k hk => rep_wid hs.1 hk) (List.replicate b (-side)).length (Nat.le_refl _)).1
    rw [← hMe] at hbl
    have h1 : M.length ≤ 4000 := by omega
    refine ⟨⟨b, rfl, by omega, by omega, fun v hv => ?_⟩, ?_⟩
    · have h3 := (List.mem_filter.1 hv).1
      rw [hMe] at h3
      rw [box_row _ h3, List.length_replicate]
    · exact Nat.le_trans (List.length_filter_le _ _) h1
  · cases h
def valZ (cs v : List Int) : Option (List Int) := mulZ 1 cs.length v.length 1 cs v
def valN (cs v : List Int) : Int := ((valZ cs v).getD []).getD 0 0
def okV (cs : List Int) (L : List (List Int)) (i : Nat) : Bool := decide (∀ q, q < i → (valZ cs (L.getD q [])).isSome = true)
def bestS (cs : List Int) (L : List (List Int)) : Nat → Int × Int
  | 0 => (-1, 0)
  | i + 1 => if (bestS cs L i).1 < 0 ∨ (bestS cs L i).2 < valN cs (L.getD i []) then (i, valN cs (L.getD i [])) else bestS cs L i
theorem bestS_le {cs : List Int} {L : List (List Int)} : ∀ i : Nat, (i = 0 → (bestS cs L i).1 = -1) ∧ (i ≠ 0 → 0 ≤ (bestS cs L i).1) ∧ (bestS cs L i).1 < i
  | 0 => ⟨fun _ => rfl, fun h => (h rfl).elim, by simp [bestS]⟩
  | i + 1 => by
    have := bestS_le (cs := cs) (L := L) i
    refine ⟨fun h => by omega, fun _ => ?_, ?_⟩ <;> rw [bestS] <;> split <;> (try dsimp only) <;> omega
theorem okV_next {cs : List Int} {L : List (List Int)} {i : Nat} (h : okV cs L i = true) : okV cs L (i + 1) = (valZ cs (L.getD i [])).isSome := by
  rw [Bool.eq_iff_iff]
  have h0 := of_decide_eq_true h
  simp only [okV, decide_eq_true_eq]
  constructor
  · intro h; exact h i (by omega)
  · intro h2 q hq
    rcases Nat.lt_or_ge q i with c | c
    · exact h0 q c
    · obtain rfl : q = i := by omega
      exact h2
theorem okV_false {cs : List Int} {L : List (List Int)} {i n : Nat} (h : okV cs L i = false) (hi : i ≤ n) : okV cs L n = false := by
  cases c : okV cs L n with
  | false => rfl
  | true =>
    have h2 := of_decide_eq_true c
    have : okV cs L i = true := decide_eq_true fun q hq => h2 q (by omega)
    rw [h] at this; cases this
def bestO (r c : Int) (xs bs cs : List Int) (side : Int) : Option (List Int × Int) := match ptsO r c xs bs side with
  | none => none
  | some L => if L ≠ [] ∧ (cs.length : Int) = c ∧ okV cs L L.length = true then some (L.getD (bestS cs L L.length).1.toNat [], (bestS cs L L.length).2) else none
/-- a list, a number and whether they are there -/
def BestR (t : TypeId) (o : Option (List Int × Int)) (k : Nat) (v : AV) (Hout : List (Nat × Blk)) (n1 : Nat) : Prop :=
  ∃ cap, v = .tup [.one (.sl k 1 0 (o.getD ([], 0)).1.length cap), .one (.int (o.getD ([], 0)).2), .one (.bool o.isSome)] ∧ Hout = [(k, .own t cap (.ints (o.getD ([], 0)).1))] ∧ n1 = k + 1
theorem BestR.out {t : TypeId} {o : Option (List Int × Int)} {k : Nat} : ∀ v Hout n1, BestR t o k v Hout n1 → ∃ b, Hout = [(k, b)] ∧ n1 = k + 1 ∧ b.keys = [] := fun _ _ _ ⟨_, _, h2, h3⟩ => ⟨_, h2, h3, by simp [Blk.keys, Elts.keys, Elts.all, ints_keys]⟩
theorem getD_row0 {l : List Row} {L : List (List Int)} (h : rowsX l = L) (j : Nat) : (l.getD j rowD).xs = L.getD j [] := by
  rw [← h]
  by_cases c : j < l.length
  · simp [rowsX, c]
  · simp [rowsX, Nat.ge_of_not_lt c, rowD]
theorem row_split {l : List Row} {j : Nat} (h : j < l.length) : l = l.take j ++ l.getD j rowD :: l.drop (j + 1) := by
  have e : l.getD j rowD = l[j] := by simp [h]
  rw [e, List.getElem_cons_drop, List.take_append_drop]
set_option maxRecDepth 100000 in
set_option maxHeartbeats 4000000 in
theorem d_bestS (r c side : Int) (xs bs cs : List Int) (ca cb cc : Nat) (hl : xs.length ≤ 1099511627776) (hl' : bs.length ≤ 1099511627776) (hl3 : cs.length ≤ 1099511627776) :
    Does Try.prog 49 [vM r c 1 xs.length ca, vS 2 1 0 bs.length cb, vS 3 1 0 cs.length cc, vI side] [(1, .ro (.ints xs)), (2, .ro (.ints bs)), (3, .ro (.ints cs))] 4 (BestR 3 (bestO r c xs bs cs side) 4) := by
  refine Does.intro TT Try.func49 rfl (by kernel_rfl) rfl rfl fun E hE => ?_
  have hp := d_ptsS r c side xs bs ca cb hl hl'
  cases ho : ptsO r c xs bs side with
  | none =>
    have hb : bestO r c xs bs cs side = none := by simp [bestO, ho]
    rw [ho] at hp
    rw [hb]
    ((repeat' (first | (refine awpL_step TT rfl rfl rfl sd ?_) | (refine awpL_nil ?_) | (refine awpL_skip rfl rfl ?_) | (refine awpQ_step TT rfl rfl rfl rfl sd ?_) | (refine awpQ_nil ?_) | (refine awpQ_skip rfl rfl ?_) | (refine awp_seq ?_) | (refine awp_region ?_) | ((refine awpL_call (hp) rfl rfl rfl rfl rfl rfl rfl ft rfl ?_); rintro v Hout n1 ⟨rfl, rfl, rfl⟩) | (refine awp_block ?_) | (refine awp_exit ?_) | (refine awp_skip ?_) | (refine awp_ret ?_) | (refine awp_cond_t rfl ?_) | (refine awp_cond_f rfl ?_) | (refine awp_quiet TM rfl (by kernel_rfl) ?_) | ((first | refine awpL_split rfl rfl rfl (fun hc => ?_) (fun hc => ?_) | refine awpQ_split rfl rfl rfl (fun hc => ?_) (fun hc => ?_) | refine awp_cond rfl (fun hc => ?_) (fun hc => ?_)) <;> ((try simp at hc) <;> try contradiction)))) <;> try (exfalso; omega))
    exact fin rfl (by repeat' (first | exact trivial | exact Nat.zero_lt_one | omega | refine ⟨?_, ?_⟩)) [(4, 6)] (.tup [.one (.sl 4 1 0 0 0), .one (.int 0), .one (.bool false)]) [(4, .own 3 0 (.ints []))] 5 (⟨0, rfl, rfl, rfl⟩) rfl ⟨trivial, ⟨own_ints rfl, trivial⟩, rfl⟩ rfl
  | some L =>
    rw [ho] at hp
    obtain ⟨⟨b, rfl, hb1, hb2, hrl⟩, hL⟩ := ptsO_dim ho
    by_cases hg : L ≠ [] ∧ (cs.length : Int) = b
    · obtain ⟨hL0, hcb⟩ := hg
      have hLl : 0 < L.length := List.length_pos_iff.2 hL0
      ((repeat' (first | (refine awpL_step TT rfl rfl rfl sd ?_) | (refine awpL_nil ?_) | (refine awpL_skip rfl rfl ?_) | (refine awpQ_step TT rfl rfl rfl rfl sd ?_) | (refine awpQ_nil ?_) | (refine awpQ_skip rfl rfl ?_) | (refine awp_seq ?_) | (refine awp_region ?_) | ((refine awpL_call (hp) rfl rfl rfl rfl rfl rfl rfl ft rfl ?_); rintro v Hout n1 ⟨l, cap, hlL, rfl, rfl, rfl⟩; have hll := rowsX_len hlL; have hl0 : l ≠ [] := fun h => by rw [h] at hll; exact absurd hLl (by rw [← hll]; decide)) | (refine awp_block ?_) | (refine awp_exit ?_) | (refine awp_skip ?_) | (refine awp_ret ?_) | (refine awp_cond_t rfl ?_) | (refine awp_cond_f rfl ?_) | (refine awp_quiet TM rfl (by kernel_rfl) ?_) | ((first | refine awpL_split rfl rfl rfl (fun hc => ?_) (fun hc => ?_) | refine awpQ_split rfl rfl rfl (fun hc => ?_) (fun hc => ?_) | refine awp_cond rfl (fun hc => ?_) (fun hc => ?_)) <;> ((try simp at hc) <;> try contradiction)))) <;> try (exfalso; omega))
      refine awp_loop hE (fun i : Nat => i ≤ l.length ∧ okV cs L i = true) (fun i => l.length - i)
        (fun i => [(2, vS 3 1 0 cs.length cc), (11, vS 5 1 0 l.length cap), (13, vI (bestS cs L i).1), (14, vI (bestS cs L i).2), (15, vI i)])
        (fun i => [(3, .ro (.ints cs)), (5, .own 22 cap (.rows false true l)), (6, .tok 3 false l)]) 7 [] 0 ⟨Nat.zero_le _, rfl⟩ ⟨(by repeat' (first | exact trivial | refine ⟨rfl, ?_⟩ | refine ⟨congrArg some (congrArg vI (by first | omega | (simp; done) | (simp; omega))), ?_⟩ | refine ⟨sl_eqA (by first | omega | (simp; done) | (simp; omega)), ?_⟩)), (by repeat' (first | exact trivial | refine ⟨rfl, ?_⟩)), rfl⟩ ?_
      rintro j ⟨hj, hok⟩
      have hbs := bestS_le (cs := cs) (L := L) j
      by_cases hjl : j < l.length
      · have hx : (l.getD (0 + (j : Int).toNat) rowD).xs = L.getD j [] := by rw [getD_row0 hlL]; simp
        have hxl : (l.getD (0 + (j : Int).toNat) rowD).xs.length = b := by
          have hjL : j < L.length := by omega
          have e : L.getD j [] = L[j] := by simp [hjL]
          rw [hx, e]; exact hrl _ (List.getElem_mem hjL)
        have ht := fun cv => d_times 1 cs.length cs (l.getD (0 + (j : Int).toNat) rowD).xs cc cv hl3 (by omega)
        have hv : mulZ 1 cs.length (l.getD (0 + (j : Int).toNat) rowD).xs.length 1 cs (l.getD (0 + (j : Int).toNat) rowD).xs = valZ cs (L.getD j []) := by rw [hx]; rfl
        have hn := okV_next hok
        rw [hv] at ht
        cases hz : valZ cs (L.getD j []) with
        | none =>
          rw [hz] at ht hn
          have hb : bestO r b xs bs cs side = none := by
            simp only [bestO, ho]
            rw [if_neg]
            rintro ⟨_, _, h⟩
            rw [okV_false hn (by omega)] at h; cases h
          rw [hb]
          ((repeat' (first | (refine awpL_step TT rfl rfl rfl sd ?_) | (refine awpL_nil ?_) | (refine awpL_skip rfl rfl ?_) | (refine awpQ_step TT rfl rfl rfl rfl sd ?_) | (refine awpQ_nil ?_) | (refine awpQ_skip rfl rfl ?_) | (refine awp_seq ?_) | (refine awp_region ?_) | ((refine awpL_call (ht _) rfl rfl rfl rfl rfl rfl rfl ft rfl ?_); rintro v Hout n1 ⟨cap3, -, rfl, rfl, rfl⟩) | (refine awp_block ?_) | (refine awp_exit ?_) | (refine awp_skip ?_) | (refine awp_ret ?_) | (refine awp_cond_t rfl ?_) | (refine awp_cond_f rfl ?_) | (refine awp_quiet TM rfl (by kernel_rfl) ?_) | ((first | refine awpL_split rfl rfl rfl (fun hc => ?_) (fun hc => ?_) | refine awpQ_split rfl rfl rfl (fun hc => ?_) (fun hc => ?_) | refine awp_cond rfl (fun hc => ?_) (fun hc => ?_)) <;> ((try simp at hc) <;> try contradiction)))) <;> try (exfalso; omega))
          exact fin rfl (by repeat' (first | exact trivial | exact Nat.zero_lt_one | omega | refine ⟨?_, ?_⟩)) [(4, 9)] (.tup [.one (.sl 4 1 0 0 0), .one (.int 0), .one (.bool false)]) [(4, .own 3 0 (.ints []))] 5 (⟨0, rfl, rfl, rfl⟩) rfl ⟨trivial, ⟨own_ints rfl, trivial⟩, rfl⟩ rfl
        | some p =>
          rw [hz] at ht hn
          have hp1 : p.length = 1 := by simpa using mulZ_len hz
          have hvn : valN cs (L.getD j []) = p[0]?.getD 0 := by rw [valN, hz]; simp
          have hst : ∀ _ : Unit, bestS cs L (j + 1) = if (bestS cs L j).1 < 0 ∨ (bestS cs L j).2 < p[0]?.getD 0 then ((j : Int), p[0]?.getD 0) else bestS cs L j := fun _ => by rw [bestS, hvn]
          generalize bestS cs L j = B at *
          obtain ⟨m, v⟩ := B
          dsimp only at hbs hst ⊢
          clear hvn hp
          replace ht : ∀ cv, Does Try.prog 77 [vM 1 cs.length 1 cs.length cc, vS 2 1 0 (l.getD (0 + (j : Int).toNat) rowD).xs.length cv] [(1, .ro (.ints cs)), (2, .ro (.ints (l.getD (0 + (j : Int).toNat) rowD).xs))] 3 (fun v Hout n1 => ∃ cap, p.length ≤ cap ∧ v = .tup [.one (.sl 3 1 0 p.length cap), .one (.bool true)] ∧ Hout = [(3, .own 3 cap (.ints p))] ∧ n1 = 4) := fun cv => ht cv
          ((repeat' (first | (refine awpL_step TT rfl rfl rfl sd ?_) | (refine awpL_nil ?_) | (refine awpL_skip rfl rfl ?_) | (refine awpQ_step TT rfl rfl rfl rfl sd ?_) | (refine awpQ_nil ?_) | (refine awpQ_skip rfl rfl ?_) | (refine awp_seq ?_) | (refine awp_region ?_) | ((refine awpL_call (ht _) rfl rfl rfl rfl rfl rfl rfl ft rfl ?_); rintro v Hout n1 ⟨cap3, -, rfl, rfl, rfl⟩) | (refine awp_block ?_) | (refine awp_exit ?_) | (refine awp_skip ?_) | (refine awp_ret ?_) | (refine awp_cond_t rfl ?_) | (refine awp_cond_f rfl ?_) | (refine awp_quiet TM rfl (by kernel_rfl) ?_) | ((first | refine awpL_split rfl rfl rfl (fun hc => ?_) (fun hc => ?_) | refine awpQ_split rfl rfl rfl (fun hc => ?_) (fun hc => ?_) | refine awp_cond rfl (fun hc => ?_) (fun hc => ?_)) <;> ((try simp at hc) <;> try contradiction)))) <;> try (exfalso; omega))
          · have hq : bestS cs L (j + 1) = ((j : Int), p[0]?.getD 0) := by rw [hst (), if_pos (by omega)]
            refine ⟨[], j + 1, ⟨hjl, hn⟩, (by first | omega | (dsimp only; omega)), ?_⟩
            dsimp only
            rw [hq]
            exact ⟨(by repeat' (first | exact trivial | refine ⟨rfl, ?_⟩ | refine ⟨congrArg some (congrArg vI (by first | omega | (simp; done) | (simp; omega))), ?_⟩ | refine ⟨sl_eqA (by first | omega | (simp; done) | (simp; omega)), ?_⟩)), (by repeat' (first | exact trivial | refine ⟨rfl, ?_⟩)), rfl⟩
          · have hq : bestS cs L (j + 1) = ((j : Int), p[0]?.getD 0) := by rw [hst (), if_pos (by omega)]
            refine ⟨[], j + 1, ⟨hjl, hn⟩, (by first | omega | (dsimp only; omega)), ?_⟩
            dsimp only
            rw [hq]
            exact ⟨(by repeat' (first | exact trivial | refine ⟨rfl, ?_⟩ | refine ⟨congrArg some (congrArg vI (by first | omega | (simp; done) | (simp; omega))), ?_⟩ | refine ⟨sl_eqA (by first | omega | (simp; done) | (simp; omega)), ?_⟩)), (by repeat' (first | exact trivial | refine ⟨rfl, ?_⟩)), rfl⟩
          · have hq : bestS cs L (j + 1) = (m, v) := by rw [hst (), if_neg (by omega)]
            refine ⟨[], j + 1, ⟨hjl, hn⟩, (by first | omega | (dsimp only; omega)), ?_⟩
            dsimp only
            rw [hq]
            exact ⟨(by repeat' (first | exact trivial | refine ⟨rfl, ?_⟩ | refine ⟨congrArg some (congrArg vI (by first | omega | (simp; done) | (simp; omega))), ?_⟩ | refine ⟨sl_eqA (by first | omega | (simp; done) | (simp; omega)), ?_⟩)), (by repeat' (first | exact trivial | refine ⟨rfl, ?_⟩)), rfl⟩
      · obtain rfl : j = l.length := by omega
        have hb : bestO r b xs bs cs side = some ((l.getD (0 + (bestS cs L l.length).1.toNat) rowD).xs, (bestS cs L l.length).2) := by
          simp only [bestO, ho]
          rw [if_pos ⟨hL0, hcb, by rw [← hll]; exact hok⟩, getD_row0 hlL, hll, Nat.zero_add]
        have hb0 := hbs.2.1 (by omega)
        have hbl := hbs.2.2
        have hsp := row_split (l := l) (j := 0 + (bestS cs L l.length).1.toNat) (by omega)
        rw [hb]
        ((repeat' (first | (refine awpL_step TT rfl rfl rfl sd ?_) | (refine awpL_nil ?_) | (refine awpL_skip rfl rfl ?_) | (refine awpQ_step TT rfl rfl rfl rfl sd ?_) | (refine awpQ_nil ?_) | (refine awpQ_skip rfl rfl ?_) | (refine awp_seq ?_) | (refine awp_region ?_) | (refine awp_wake 8 6 (l.take (0 + (bestS cs L l.length).1.toNat)) (l.drop (0 + (bestS cs L l.length).1.toNat + 1)) (l.getD (0 + (bestS cs L l.length).1.toNat) rowD) rfl rfl (congrArg (fun z => some (Blk.tok 3 false z)) hsp) ?_) | (refine awp_block ?_) | (refine awp_exit ?_) | (refine awp_skip ?_) | (refine awp_ret ?_) | (refine awp_cond_t rfl ?_) | (refine awp_cond_f rfl ?_) | (refine awp_quiet TM rfl (by kernel_rfl) ?_) | ((first | refine awpL_split rfl rfl rfl (fun hc => ?_) (fun hc => ?_) | refine awpQ_split rfl rfl rfl (fun hc => ?_) (fun hc => ?_) | refine awp_cond rfl (fun hc => ?_) (fun hc => ?_)) <;> ((try simp at hc) <;> try contradiction)))) <;> try (exfalso; omega))
        exact fin rfl (by repeat' (first | exact trivial | exact Nat.zero_lt_one | omega | refine ⟨?_, ?_⟩)) [(4, 8)] (.tup [.one (.sl 4 1 0 (l.getD (0 + (bestS cs L l.length).1.toNat) rowD).xs.length (l.getD (0 + (bestS cs L l.length).1.toNat) rowD).cap), .one (.int (bestS cs L l.length).2), .one (.bool true)]) [(4, .own 3 (l.getD (0 + (bestS cs L l.length).1.toNat) rowD).cap (.ints (l.getD (0 + (bestS cs L l.length).1.toNat) rowD).xs))] 5 (⟨_, rfl, rfl, rfl⟩) rfl ⟨trivial, ⟨own_ints rfl, trivial⟩, rfl⟩ rfl
    · have hb : bestO r b xs bs cs side = none := by
        simp only [bestO, ho]
        rw [if_neg]
        rintro ⟨h1, h2, _⟩
        exact hg ⟨h1, h2⟩
      have hg2 : L.length = 0 ∨ (cs.length : Int) ≠ b := by
        rcases Nat.eq_zero_or_pos L.length with q | q
        · exact .inl q
        · exact .inr fun h => hg ⟨List.length_pos_iff.1 q, h⟩
      rw [hb]
      rcases hg2 with q | q
      · ((repeat' (first | (refine awpL_step TT rfl rfl rfl sd ?_) | (refine awpL_nil ?_) | (refine awpL_skip rfl rfl ?_) | (refine awpQ_step TT rfl rfl rfl rfl sd ?_) | (refine awpQ_nil ?_) | (refine awpQ_skip rfl rfl ?_) | (refine awp_seq ?_) | (refine awp_region ?_) | ((refine awpL_call (hp) rfl rfl rfl rfl rfl rfl rfl ft rfl ?_); rintro v Hout n1 ⟨l, cap, hlL, rfl, rfl, rfl⟩; have hl0 : l = [] := List.eq_nil_of_length_eq_zero ((rowsX_len hlL).trans q)) | (refine awp_block ?_) | (refine awp_exit ?_) | (refine awp_skip ?_) | (refine awp_ret ?_) | (refine awp_cond_t rfl ?_) | (refine awp_cond_f rfl ?_) | (refine awp_quiet TM rfl (by kernel_rfl) ?_) | ((first | refine awpL_split rfl rfl rfl (fun hc => ?_) (fun hc => ?_) | refine awpQ_split rfl rfl rfl (fun hc => ?_) (fun hc => ?_) | refine awp_cond rfl (fun hc => ?_) (fun hc => ?_)) <;> ((try simp at hc) <;> try contradiction)))) <;> try (exfalso; omega))
        all_goals exact fin rfl (by repeat' (first | exact trivial | exact Nat.zero_lt_one | omega | refine ⟨?_, ?_⟩)) [(4, 7)] (.tup [.one (.sl 4 1 0 0 0), .one (.int 0), .one (.bool false)]) [(4, .own 3 0 (.ints []))] 5 (⟨0, rfl, rfl, rfl⟩) rfl ⟨trivial, ⟨own_ints rfl, trivial⟩, rfl⟩ rfl
      · ((repeat' (first | (refine awpL_step TT rfl rfl rfl sd ?_) | (refine awpL_nil ?_) | (refine awpL_skip rfl rfl ?_) | (refine awpQ_step TT rfl rfl rfl rfl sd ?_) | (refine awpQ_nil ?_) | (refine awpQ_skip rfl rfl ?_) | (refine awp_seq ?_) | (refine awp_region ?_) | ((refine awpL_call (hp) rfl rfl rfl rfl rfl rfl rfl ft rfl ?_); rintro v Hout n1 ⟨l, cap, hlL, rfl, rfl, rfl⟩; have hll := rowsX_len hlL) | (refine awp_block ?_) | (refine awp_exit ?_) | (refine awp_skip ?_) | (refine awp_ret ?_) | (refine awp_cond_t rfl ?_) | (refine awp_cond_f rfl ?_) | (refine awp_quiet TM rfl (by kernel_rfl) ?_) | ((first | refine awpL_split rfl rfl rfl (fun hc => ?_) (fun hc => ?_) | refine awpQ_split rfl rfl rfl (fun hc => ?_) (fun hc => ?_) | refine awp_cond rfl (fun hc => ?_) (fun hc => ?_)) <;> ((try simp at hc) <;> try contradiction)))) <;> try (exfalso; omega))
        all_goals exact fin rfl (by repeat' (first | exact trivial | exact Nat.zero_lt_one | omega | refine ⟨?_, ?_⟩)) [(4, 7)] (.tup [.one (.sl 4 1 0 0 0), .one (.int 0), .one (.bool false)]) [(4, .own 3 0 (.ints []))] 5 (⟨0, rfl, rfl, rfl⟩) rfl ⟨trivial, ⟨own_ints rfl, trivial⟩, rfl⟩ rfl
end Go.Proofs.Ytbgeooalhoaemaa
