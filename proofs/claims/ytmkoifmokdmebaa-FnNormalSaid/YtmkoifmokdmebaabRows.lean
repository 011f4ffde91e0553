/-
  CONTRACTS: rows of a matrix taken out.
-/
import Derived.Test.YtmkoifmokdmebaaAm9
import Derived.Test.YtmkoifmokdmebaabMat
import Derived.Test.YtmkoifmokdmebaabSwap
set_option linter.unusedVariables false
set_option linter.unusedSimpArgs false
namespace Go.Proofs.Ytmkoifmokdmebaa
open Go.RowKit

def cellsOf (l : List Row) : List Int := l.flatMap Row.xs
theorem cellsOf_take {l : List Row} {k : Nat} (h : k < l.length) : cellsOf (l.take (k + 1)) = cellsOf (l.take k) ++ l[k].xs := by
  rw [cellsOf, List.take_succ_eq_append_getElem h, List.flatMap_append]; simp [cellsOf]
theorem getD_row {l : List Row} {j : Nat} (h : j < l.length) : l[j]?.getD rowD = l[j] := by simp [h]
def FromR (n : Nat) (c : Int) (t : TypeId) (xs : List Int) (k : Nat) (v : AV) (Hout : List (Nat × Blk)) (n1 : Nat) : Prop := ∃ cap, xs.length ≤ cap ∧ v = .agg [.int n, .int c, .sl k 1 0 xs.length cap] ∧ Hout = [(k, .own t cap (.ints xs))] ∧ n1 = k + 1
theorem FromR.out {n : Nat} {c : Int} {t : TypeId} {xs : List Int} {k : Nat} : ∀ v Hout n1, FromR n c t xs k v Hout n1 → ∃ b, Hout = [(k, b)] ∧ n1 = k + 1 ∧ b.keys = [] := fun _ _ _ ⟨_, _, _, h2, h3⟩ => ⟨_, h2, h3, by simp [Blk.keys, Elts.keys, Elts.all, ints_keys]⟩
theorem cells_le {l : List Row} {k : Nat} : (cellsOf (l.take k)).length ≤ (cellsOf l).length := by
  have h : cellsOf l = cellsOf (l.take k) ++ cellsOf (l.drop k) := by
    conv => lhs; rw [← List.take_append_drop k l]
    simp only [cellsOf, List.flatMap_append]
  rw [h, List.length_append]; omega
theorem own_lit3R {t : TypeId} {c : Nat} {x y : Int} {k k' a b cp : Nat} {m : Nat → Nat} (h : a = b) (hk : k' = m k := by rfl) : some (Blk.own t c (.lit [.int x, .int y, .sl k' 1 0 a cp])) = some ((Blk.own t c (.lit [.int x, .int y, .sl k 1 0 b cp])).ren m) := by subst h hk; rfl
set_option maxHeartbeats 2000000 in
theorem d_fromRows (l : List Row) (c : Int) (cp : Nat) (hl : l.length ≤ 1000000) (hc : (cellsOf l).length ≤ 1000000) : Does Try.prog 105 [vS 1 1 0 l.length cp, vI c] [(1, .ro (.rows false true l))] 2 (FromR l.length c 3 (cellsOf l) 2) := by
  refine Does.intro TT Try.func105 rfl (by kernel_rfl) rfl rfl fun E hE => ?_
  ((repeat' (first | (refine awpL_step TT rfl rfl rfl sd ?_) | (refine awpL_nil ?_) | (refine awpL_skip rfl rfl ?_) | (refine awpQ_step TT rfl rfl rfl rfl sd ?_) | (refine awpQ_nil ?_) | (refine awpQ_skip rfl rfl ?_) | (refine awp_seq ?_) | (refine awp_region ?_) | (refine awp_block ?_) | (refine awp_exit ?_) | (refine awp_skip ?_) | (refine awp_ret ?_) | (refine awp_cond_t rfl ?_) | (refine awp_cond_f rfl ?_) | (refine awp_quiet TM rfl (by kernel_rfl) ?_) | ((first | refine awpL_split rfl rfl rfl (fun hc => ?_) (fun hc => ?_) | refine awpQ_split rfl rfl rfl (fun hc => ?_) (fun hc => ?_) | refine awp_cond rfl (fun hc => ?_) (fun hc => ?_)) <;> ((try simp at hc) <;> try contradiction)))) <;> try (exfalso; omega))
  refine awp_loop hE (fun i : Nat × Nat => i.1 ≤ l.length ∧ (cellsOf (l.take i.1)).length ≤ i.2) (fun i => l.length - i.1)
    (fun i => [(4, .one (.ptr 2 3 0 0)), (5, .one (.ptr 4 3 0 0)), (13, vS 1 1 0 l.length cp), (14, vI l.length), (15, vI i.1)])
    (fun i => [(1, .ro (.rows false true l)), (2, .own 27 1 (.lit zeroM)), (3, .own 3 i.2 (.ints (cellsOf (l.take i.1)))), (4, .own 27 1 (.lit [.int l.length, .int c, .sl 3 1 0 (cellsOf (l.take i.1)).length i.2]))]) 5 [] (0, 0) ⟨Nat.zero_le _, Nat.zero_le _⟩ ⟨(by repeat' (first | exact trivial | refine ⟨rfl, ?_⟩ | refine ⟨congrArg some (congrArg vI (by first | omega | (simp; done) | (simp; omega))), ?_⟩ | refine ⟨sl_eqA (by first | omega | (simp; done) | (simp; omega)), ?_⟩)), (by repeat' (first | exact trivial | refine ⟨rfl, ?_⟩)), rfl⟩ ?_
  rintro ⟨i, cap⟩ ⟨hi, hcap⟩
  dsimp only at hi hcap
  by_cases hil : i < l.length
  · have b1 := cells_le (l := l) (k := i + 1)
    have e1 := cellsOf_take hil
    have b2 : (cellsOf (l.take i)).length + (l[i]).xs.length ≤ 1000000 := by
      have := congrArg List.length e1
      simp only [List.length_append] at this
      omega
    have b3 := getD_row hil
    rw [← b3] at b2 e1
    ((repeat' (first | (refine awpL_step TT rfl rfl rfl sd ?_) | (refine awpL_nil ?_) | (refine awpL_skip rfl rfl ?_) | (refine awpQ_step TT rfl rfl rfl rfl sd ?_) | (refine awpQ_nil ?_) | (refine awpQ_skip rfl rfl ?_) | (refine awp_seq ?_) | (refine awp_region ?_) | (first | (refine awpL_append TT rfl rfl rfl rfl rfl sd ?_; intro cap hcap) | (refine awpHop_append TT _ rfl rfl rfl rfl rfl rfl sd sb rfl rfl ?_; intro cap hcap)) | (refine awp_block ?_) | (refine awp_exit ?_) | (refine awp_skip ?_) | (refine awp_ret ?_) | (refine awp_cond_t rfl ?_) | (refine awp_cond_f rfl ?_) | (refine awp_quiet TM rfl (by kernel_rfl) ?_) | ((first | refine awpL_split rfl rfl rfl (fun hc => ?_) (fun hc => ?_) | refine awpQ_split rfl rfl rfl (fun hc => ?_) (fun hc => ?_) | refine awp_cond rfl (fun hc => ?_) (fun hc => ?_)) <;> ((try simp at hc) <;> try contradiction)))) <;> try (exfalso; omega))
    have e2 : (cellsOf (l.take i)).length + (l.getD (0 + (i : Int).toNat) rowD).xs.length = (cellsOf (l.take (i + 1))).length := by rw [e1]; simp
    exact ⟨[(3, 6)], (i + 1, cap), ⟨by dsimp only; omega, by dsimp only at hcap ⊢; omega⟩, (by first | omega | (dsimp only; omega)), ⟨(by repeat' (first | exact trivial | refine ⟨rfl, ?_⟩ | refine ⟨congrArg some (congrArg vI (by first | omega | (simp; done) | (simp; omega))), ?_⟩ | refine ⟨sl_eqA (by first | omega | (simp; done) | (simp; omega)), ?_⟩)), ⟨rfl, rfl, own_ints (by simp [e1]), own_lit3R e2, trivial⟩, rfl⟩⟩
  · obtain rfl : i = l.length := by omega
    ((repeat' (first | (refine awpL_step TT rfl rfl rfl sd ?_) | (refine awpL_nil ?_) | (refine awpL_skip rfl rfl ?_) | (refine awpQ_step TT rfl rfl rfl rfl sd ?_) | (refine awpQ_nil ?_) | (refine awpQ_skip rfl rfl ?_) | (refine awp_seq ?_) | (refine awp_region ?_) | (refine awp_block ?_) | (refine awp_exit ?_) | (refine awp_skip ?_) | (refine awp_ret ?_) | (refine awp_cond_t rfl ?_) | (refine awp_cond_f rfl ?_) | (refine awp_quiet TM rfl (by kernel_rfl) ?_) | ((first | refine awpL_split rfl rfl rfl (fun hc => ?_) (fun hc => ?_) | refine awpQ_split rfl rfl rfl (fun hc => ?_) (fun hc => ?_) | refine awp_cond rfl (fun hc => ?_) (fun hc => ?_)) <;> ((try simp at hc) <;> try contradiction)))) <;> try (exfalso; omega))
    rw [List.take_length] at hcap
    exact fin rfl (by repeat' (first | exact trivial | exact Nat.zero_lt_one | omega | refine ⟨?_, ?_⟩)) [(2, 3)] (.agg [.int l.length, .int c, .sl 2 1 0 (cellsOf l).length cap]) [(2, .own 3 cap (.ints (cellsOf l)))] 3 ⟨cap, hcap, rfl, rfl, rfl⟩ (by simp [mp]; rfl) ⟨trivial, ⟨own_ints (by simp), trivial⟩, rfl⟩ rfl
def natsI (l : List Nat) : List Int := l.map Int.ofNat
theorem natsI_len {l : List Nat} : (natsI l).length = l.length := by simp [natsI]
theorem natsI_at {l : List Nat} {i : Nat} (h : i < l.length) : ((l[i] : Nat) : Int) = (natsI l).getD (0 + (i : Int).toNat) 0 := by simp [natsI, h]
/-- the rows of a matrix with these numbers -/
def pickR (xs : List Int) (c : Nat) (is : List Nat) : List Int := is.flatMap fun i => (xs.drop (i * c)).take c
theorem pickR_len {xs : List Int} {r c : Nat} (hx : xs.length = r * c) : ∀ {is : List Nat}, (∀ i ∈ is, i < r) → (pickR xs c is).length = is.length * c
  | [], _ => by simp [pickR]
  | i :: is, h => by
    have h1 := row_in (c := c) (h i (by simp))
    have h2 := pickR_len hx (is := is) fun j hj => h j (by simp [hj])
    simp only [pickR] at h2
    simp only [pickR, List.flatMap_cons, List.length_append, h2, List.length_cons, Nat.succ_mul]
    simp; omega
set_option maxHeartbeats 2000000 in
theorem d_takeRows (r c : Nat) (xs : List Int) (is : List Nat) (ca cp n m : Nat) (hn : n = xs.length) (hm : m = is.length) (hx : xs.length = r * c) (hca : xs.length ≤ ca) (hr : r ≤ 24) (hc24 : c ≤ 24) (his : ∀ i ∈ is, i < r) (hil : is.length ≤ 1000) :
    Does Try.prog 61 [vM r c 1 n ca, vS 2 1 0 m cp] [(1, .ro (.ints xs)), (2, .ro (.ints (natsI is)))] 3 (FromR is.length c 3 (pickR xs c is) 3) := by
  subst hn hm
  refine Does.intro TT Try.func61 rfl (by kernel_rfl) rfl rfl fun E hE => ?_
  ((repeat' (first | (refine awpL_step TT rfl rfl rfl sd ?_) | (refine awpL_nil ?_) | (refine awpL_skip rfl rfl ?_) | (refine awpQ_step TT rfl rfl rfl rfl sd ?_) | (refine awpQ_nil ?_) | (refine awpQ_skip rfl rfl ?_) | (refine awp_seq ?_) | (refine awp_region ?_) | (refine awp_block ?_) | (refine awp_exit ?_) | (refine awp_skip ?_) | (refine awp_ret ?_) | (refine awp_cond_t rfl ?_) | (refine awp_cond_f rfl ?_) | (refine awp_quiet TM rfl (by kernel_rfl) ?_) | ((first | refine awpL_split rfl rfl rfl (fun hc => ?_) (fun hc => ?_) | refine awpQ_split rfl rfl rfl (fun hc => ?_) (fun hc => ?_) | refine awp_cond rfl (fun hc => ?_) (fun hc => ?_)) <;> ((try simp at hc) <;> try contradiction)))) <;> try (exfalso; omega))
  refine awp_loop hE (fun i : Nat × List Row × Nat => i.1 ≤ is.length ∧ i.2.1.length = i.1 ∧ cellsOf i.2.1 = pickR xs c (is.take i.1)) (fun i => is.length - i.1)
    (fun i => [(2, .one (.ptr 3 3 0 0)), (4, .one (.ptr 4 3 0 0)), (5, vS 5 1 0 i.2.1.length i.2.2), (9, vS 2 1 0 is.length cp), (10, vI is.length), (11, vI i.1)])
    (fun i => [(1, .ro (.ints xs)), (2, .ro (.ints (natsI is))), (3, .own 27 1 (.lit [.int r, .int c, .sl 1 1 0 xs.length ca])), (4, .own 27 1 (.lit zeroM)), (5, .own 22 i.2.2 (.rows false true i.2.1))]) 6 [] (0, [], 0) ⟨Nat.zero_le _, rfl, rfl⟩ ⟨(by repeat' (first | exact trivial | refine ⟨rfl, ?_⟩ | refine ⟨congrArg some (congrArg vI (by first | omega | (simp; done) | (simp; omega))), ?_⟩ | refine ⟨sl_eqA (by first | omega | (simp; done) | (simp; omega)), ?_⟩)), (by repeat' (first | exact trivial | refine ⟨rfl, ?_⟩)), rfl⟩ ?_
  rintro ⟨i, l, cap⟩ ⟨hi, hl, hcl⟩
  dsimp only at hi hl hcl
  by_cases hk : i < is.length
  · have b1 := his _ (List.getElem_mem hk)
    have b2 := row_in (c := c) b1
    have hln : (natsI is).length = is.length := natsI_len
    have hd := d_rowAt r c is[i] xs.length ca xs rfl hx hca hr hc24 b1
    rw [natsI_at hk] at hd
    have hlen : ((xs.drop (is[i] * c)).take c).length = c := by simp; omega
    ((repeat' (first | (refine awpL_step TT rfl rfl rfl sd ?_) | (refine awpL_nil ?_) | (refine awpL_skip rfl rfl ?_) | (refine awpQ_step TT rfl rfl rfl rfl sd ?_) | (refine awpQ_nil ?_) | (refine awpQ_skip rfl rfl ?_) | (refine awp_seq ?_) | (refine awp_region ?_) | ((refine awpL_call (hd) rfl rfl rfl rfl rfl rfl rfl ft rfl ?_); rintro v Hout n1 ⟨cpr, rfl, rfl, rfl⟩) | (refine awp_block ?_) | (refine awp_exit ?_) | (refine awp_skip ?_) | (refine awp_ret ?_) | (refine awp_cond_t rfl ?_) | (refine awp_cond_f rfl ?_) | (refine awp_quiet TM rfl (by kernel_rfl) ?_) | ((first | refine awpL_split rfl rfl rfl (fun hc => ?_) (fun hc => ?_) | refine awpQ_split rfl rfl rfl (fun hc => ?_) (fun hc => ?_) | refine awp_cond rfl (fun hc => ?_) (fun hc => ?_)) <;> ((try simp at hc) <;> try contradiction)))) <;> try (exfalso; omega))
    (refine awpL_view 18 rfl rfl rfl rfl rfl rfl (by first | omega | (simp only [Elts.len]; omega)) rfl ints_keys ?_; intro av)
    ((repeat' (first | (refine awpL_step TT rfl rfl rfl sd ?_) | (refine awpL_nil ?_) | (refine awpL_skip rfl rfl ?_) | (refine awpQ_step TT rfl rfl rfl rfl sd ?_) | (refine awpQ_nil ?_) | (refine awpQ_skip rfl rfl ?_) | (refine awp_seq ?_) | (refine awp_region ?_) | (first | (refine awpL_append TT rfl rfl rfl rfl rfl sd ?_; intro cap hcap) | (refine awpHop_append TT _ rfl rfl rfl rfl rfl rfl sd sb rfl rfl ?_; intro cap hcap)) | (refine awp_block ?_) | (refine awp_exit ?_) | (refine awp_skip ?_) | (refine awp_ret ?_) | (refine awp_cond_t rfl ?_) | (refine awp_cond_f rfl ?_) | (refine awp_quiet TM rfl (by kernel_rfl) ?_) | ((first | refine awpL_split rfl rfl rfl (fun hc => ?_) (fun hc => ?_) | refine awpQ_split rfl rfl rfl (fun hc => ?_) (fun hc => ?_) | refine awp_cond rfl (fun hc => ?_) (fun hc => ?_)) <;> ((try simp at hc) <;> try contradiction)))) <;> try (exfalso; omega))
    refine ⟨[(5, 8)], (i + 1, l ++ [⟨av, cpr, (xs.drop (is[i] * c)).take c, []⟩], cap), ⟨by dsimp only; omega, by simp [hl], ?_⟩, (by first | omega | (dsimp only; omega)), ⟨(by repeat' (first | exact trivial | refine ⟨rfl, ?_⟩ | refine ⟨congrArg some (congrArg vI (by first | omega | (simp; done) | (simp; omega))), ?_⟩ | refine ⟨sl_eqA (by first | omega | (simp; done) | (simp; omega)), ?_⟩)), ⟨rfl, rfl, rfl, rfl, rfl, trivial⟩, rfl⟩⟩
    dsimp only
    rw [List.take_succ_eq_append_getElem hk]
    simp only [cellsOf, pickR, List.flatMap_append] at hcl ⊢
    rw [hcl]; simp
  · obtain rfl : i = is.length := by omega
    rw [List.take_length] at hcl
    have hp := pickR_len hx his
    have hb : is.length * c ≤ 1000 * 24 := Nat.mul_le_mul hil hc24
    have hf := d_fromRows l c cap (by omega) (by rw [hcl, hp]; omega)
    rw [hcl, hl] at hf
    rw [← hl] at hf
    ((repeat' (first | (refine awpL_step TT rfl rfl rfl sd ?_) | (refine awpL_nil ?_) | (refine awpL_skip rfl rfl ?_) | (refine awpQ_step TT rfl rfl rfl rfl sd ?_) | (refine awpQ_nil ?_) | (refine awpQ_skip rfl rfl ?_) | (refine awp_seq ?_) | (refine awp_region ?_) | ((first | refine awpL_one (hf) rfl rfl rfl rfl rfl rfl rfl ft rfl rfl (FromR.out) ?_ | refine awpHop_one _ (hf) rfl rfl rfl rfl rfl rfl rfl rfl ft rfl rfl (FromR.out) sb rfl rfl ?_); rintro v b ⟨c1, hc1, rfl, he, -⟩; cases he) | (refine awp_block ?_) | (refine awp_exit ?_) | (refine awp_skip ?_) | (refine awp_ret ?_) | (refine awp_cond_t rfl ?_) | (refine awp_cond_f rfl ?_) | (refine awp_quiet TM rfl (by kernel_rfl) ?_) | ((first | refine awpL_split rfl rfl rfl (fun hc => ?_) (fun hc => ?_) | refine awpQ_split rfl rfl rfl (fun hc => ?_) (fun hc => ?_) | refine awp_cond rfl (fun hc => ?_) (fun hc => ?_)) <;> ((try simp at hc) <;> try contradiction)))) <;> try (exfalso; omega))
    exact fin rfl (by repeat' (first | exact trivial | exact Nat.zero_lt_one | omega | refine ⟨?_, ?_⟩)) [(3, 6)] (.agg [.int l.length, .int c, .sl 3 1 0 (pickR xs c is).length c1]) [(3, .own 3 c1 (.ints (pickR xs c is)))] 4 ⟨c1, hc1, by rw [hl], rfl, rfl⟩ rfl ⟨trivial, ⟨rfl, trivial⟩, rfl⟩ rfl
end Go.Proofs.Ytmkoifmokdmebaa
