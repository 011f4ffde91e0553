/-
  CONTRACTS: rows of a matrix taken out.
-/
import Derived.Test.YtbgeooalhoaemaaAm9
import Derived.Test.YtbgeooalhoaemaabMat
import Derived.Test.YtbgeooalhoaemaabSwap
set_option linter.unusedVariables false
set_option linter.unusedSimpArgs false
namespace Go.Proofs.Ytbgeooalhoaemaa
open Go.RowKit

def cellsOf (l : List Row) : List Int := l.flatMap Row.xs
theorem cellsOf_take {l : List Row} {k : Nat} (h : k < l.length) : cellsOf (l.take (k + 1)) = cellsOf (l.take k) ++ l[k].xs := by
  rw [cellsOf, List.take_succ_eq_append_getElem h, List.flatMap_append]; simp [cellsOf]
theorem getD_row {l : List Row} {j : Nat} (h : j < l.length) : l[j]?.getD rowD = l[j] := by simp [h]
def FromR (n : Nat) (c : Int) (t : TypeId) (xs : List Int) (k : Nat) (v : AV) (Hout : List (Nat × Blk)) (n1 : Nat) : Prop := ∃ cap, xs.length ≤ cap ∧ v = .agg [.int n, .int c, .sl k 1 0 xs.length cap] ∧ Hout = [(k, .own t cap (.ints xs))] ∧ n1 = k + 1
theorem FromR.out {n : Nat} {c : Int} {t : TypeId} {xs : List Int} {k : Nat} : ∀ v Hout n1, FromR n c t xs k v Hout n1 → ∃ b, Hout = [(k, b)] ∧ n1 = k + 1 ∧ b.keys = [] := fun _ _ _ ⟨_, _, _, h2, h3⟩ => ⟨_, h2, h3, by simp [Blk.keys, Elts.keys, Elts.all, ints_keys]⟩
theorem cells_le {l : List Row} {k : Nat} : (cellsOf (l.take k)).length ≤ (cellsOf l).length := by
  have h : cellsOf l = cellsOf (l.take k) ++ cellsOf (l.drop k) := by
    conv => lhs; rw [← List.take_append_drop k l]
    simp only [cellsOf, List.flatMap_append]
  rw [h, List.length_append]; omega
theorem own_lit3R {t : TypeId} {c : Nat} {x y : Int} {k k' a b cp : Nat} {m : Nat → Nat} (h : a = b) (hk : k' = m k := by rfl) : some (Blk.own t c (.lit [.int x, .int y, .sl k' 1 0 a cp])) = some ((Blk.own t c (.lit [.int x, .int y, .sl k 1 0 b cp])).ren m) := by subst h hk; rfl
set_option maxHeartbeats 2000000 in
theorem d_fromRows (l : List Row) (c : Int) (cp : Nat) (hl : l.length ≤ 1000000) (hc : (cellsOf l).length ≤ 1000000) : Does Try.prog 71 [vS 1 1 0 l.length cp, vI c] [(1, .ro (.rows false true l))] 2 (FromR l.length c 3 (cellsOf l) 2) := by
  refine Does.intro TT Try.func71 rfl (by kernel_rfl) rfl rfl fun E hE => ?_
  ((repeat' (first | (refine awpL_step TT rfl rfl rfl sd ?_) | (refine awpL_nil ?_) | (refine awpL_skip rfl rfl ?_) | (refine awpQ_step TT rfl rfl rfl rfl sd ?_) | (refine awpQ_nil ?_) | (refine awpQ_skip rfl rfl ?_) | (refine awp_seq ?_) | (refine awp_region ?_) | (refine awp_block ?_) | (refine awp_exit ?_) | (refine awp_skip ?_) | (refine awp_ret ?_) | (refine awp_cond_t rfl ?_) | (refine awp_cond_f rfl ?_) | (refine awp_quiet TM rfl (by kernel_rfl) ?_) | ((first | refine awpL_split rfl rfl rfl (fun hc => ?_) (fun hc => ?_) | refine awpQ_split rfl rfl rfl (fun hc => ?_) (fun hc => ?_) | refine awp_cond rfl (fun hc => ?_) (fun hc => ?_)) <;> ((try simp at hc) <;> try contradiction)))) <;> try (exfalso; omega))
  refine awp_loop hE (fun i : Nat × Nat => i.1 ≤ l.length ∧ (cellsOf (l.take i.1)).length ≤ i.2) (fun i => l.length - i.1)
    (fun i => [(4, .one (.ptr 2 3 0 0)), (5, .one (.ptr 4 3 0 0)), (13, vS 1 1 0 l.length cp), (14, vI l.length), (15, vI i.1)])
    (fun i => [(1, .ro (.rows false true l)), (2, .own 27 1 (.lit zeroM)), (3, .own 3 i.2 (.ints (cellsOf (l.take i.1)))), (4, .own 27 1 (.lit [.int l.length, .int c, .sl 3 1 0 (cellsOf (l.take i.1)).length i.2]))]) 5 [] (0, 0) ⟨Nat.zero_le _, Nat.zero_le _⟩ ⟨(by repeat' (first | exact trivial | refine ⟨rfl, ?_⟩ | refine ⟨congrArg some (congrArg vI (by first | omega | (simp; done) | (simp; omega))), ?_⟩ | refine ⟨sl_eqA (by first | omega | (simp; done) | (simp; omega)), ?_⟩)), (by repeat' (first | exact trivial | refine ⟨rfl, ?_⟩)), rfl⟩ ?_
  rintro ⟨i, cap⟩ ⟨hi, hcap⟩
  dsimp only at hi hcap
  by_cases hil : i < l.length
  · have b1 := cells_le (l := l) (k := i + 1)
    have e1 := cellsOf_take hil
    have b2 : (cellsOf (l.take i)).length + (l[i]).xs.length ≤ 1000000 := by
      have := congrArg List.length e1
      simp only [List.length_append] at this
      omega
    have b3 := getD_row hil
    rw [← b3] at b2 e1
    ((repeat' (first | (refine awpL_step TT rfl rfl rfl sd ?_) | (refine awpL_nil ?_) | (refine awpL_skip rfl rfl ?_) | (refine awpQ_step TT rfl rfl rfl rfl sd ?_) | (refine awpQ_nil ?_) | (refine awpQ_skip rfl rfl ?_) | (refine awp_seq ?_) | (refine awp_region ?_) | (first | (refine awpL_append TT rfl rfl rfl rfl rfl sd ?_; intro cap hcap) | (refine awpHop_append TT _ rfl rfl rfl rfl rfl rfl sd sb rfl rfl ?_; intro cap hcap)) | (refine awp_block ?_) | (refine awp_exit ?_) | (refine awp_skip ?_) | (refine awp_ret ?_) | (refine awp_cond_t rfl ?_) | (refine awp_cond_f rfl ?_) | (refine awp_quiet TM rfl (by kernel_rfl) ?_) | ((first | refine awpL_split rfl rfl rfl (fun hc => ?_) (fun hc => ?_) | refine awpQ_split rfl rfl rfl (fun hc => ?_) (fun hc => ?_) | refine awp_cond rfl (fun hc => ?_) (fun hc => ?_)) <;> ((try simp at hc) <;> try contradiction)))) <;> try (exfalso; omega))
    have e2 : (cellsOf (l.take i)).length + (l.getD (0 + (i : Int).toNat) rowD).xs.length = (cellsOf (l.take (i + 1))).length := by rw [e1]; simp
    exact ⟨[(3, 6)], (i + 1, cap), ⟨by dsimp only; omega, by dsimp only at hcap ⊢; omega⟩, (by first | omega | (dsimp only; omega)), ⟨(by repeat' (first | exact trivial | refine ⟨rfl, ?_⟩ | refine ⟨congrArg some (congrArg vI (by first | omega | (simp; done) | (simp; omega))), ?_⟩ | refine ⟨sl_eqA (by first | omega | (simp; done) | (simp; omega)), ?_⟩)), ⟨rfl, rfl, own_ints (by simp [e1]), own_lit3R e2, trivial⟩, rfl⟩⟩
  · obtain rfl : i = l.length := by omega
    ((repeat' (first | (refine awpL_step TT rfl rfl rfl sd ?_) | (refine awpL_nil ?_) | (refine awpL_skip rfl rfl ?_) | (refine awpQ_step TT rfl rfl rfl rfl sd ?_) | (refine awpQ_nil ?_) | (refine awpQ_skip rfl rfl ?_) | (refine awp_seq ?_) | (refine awp_region ?_) | (refine awp_block ?_) | (refine awp_exit ?_) | (refine awp_skip ?_) | (refine awp_ret ?_) | (refine awp_cond_t rfl ?_) | (refine awp_cond_f rfl ?_) | (refine awp_quiet TM rfl (by kernel_rfl) ?_) | ((first | refine awpL_split rfl rfl rfl (fun hc => ?_) (fun hc => ?_) | refine awpQ_split rfl rfl rfl (fun hc => ?_) (fun hc => ?_) | refine awp_cond rfl (fun hc => ?_) (fun hc => ?_)) <;> ((try simp at hc) <;> try contradiction)))) <;> try (exfalso; omega))
    rw [List.take_length] at hcap
    exact fin rfl (by repeat' (first | exact trivial | exact Nat.zero_lt_one | omega | refine ⟨?_, ?_⟩)) [(2, 3)] (.agg [.int l.length, .int c, .sl 2 1 0 (cellsOf l).length cap]) [(2, .own 3 cap (.ints (cellsOf l)))] 3 ⟨cap, hcap, rfl, rfl, rfl⟩ (by simp [mp]; rfl) ⟨trivial, ⟨own_ints (by simp), trivial⟩, rfl⟩ rfl
def natsI (l : List Nat) : List Int := l.map Int.ofNat
theorem natsI_len {l : List Nat} : (natsI l).length = l.length := by simp [natsI]
theorem natsI_at {l : List Nat} {i : Nat} (h : i < l.length) : ((l[i] : Nat) : Int) = (natsI l).getD (0 + (i : Int).toNat) 0 := by simp [natsI, h]
/-- the rows of a matrix with these numbers -/
def pickR (xs : List Int) (c : Nat) (is : List Nat) : List Int := is.flatMap fun i => (xs.drop (i * c)).take c
theorem pickR_len {xs : List Int} {r c : Nat} (hx : xs.length = r * c) : ∀ {is : List Nat}, (∀ i ∈ is, i < r) → (pickR xs c is).length = is.length * c
  | [], _ => by simp [pickR]
  | i :: is, h => by
    have h1 := row_in (c := c) (h i (by simp))
    have h2 := pickR_len hx (is := is) fun j hj => h j (by simp [hj])
    simp only [pickR] at h2
    simp only [pickR, List.flatMap_cons, List.length_append, h2, List.length_cons, Nat.succ_mul]
    simp; omega
end Go.Proofs.Ytbgeooalhoaemaa
