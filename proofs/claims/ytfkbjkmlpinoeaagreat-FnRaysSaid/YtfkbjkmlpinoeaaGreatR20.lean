/-
  TEXTS OF THE PROOF, put together: pBox, pChoose, bEch, bDet.
-/
import Derived.Test.YtfkbjkmlpinoeaaGreatR17
import Derived.Test.YtfkbjkmlpinoeaaGreatR08
import Derived.Test.YtfkbjkmlpinoeaaGreatR09
import Derived.Test.YtfkbjkmlpinoeaaGreatR11
set_option linter.unusedVariables false
set_option linter.unusedSimpArgs false
namespace Go.Proofs.YtfkbjkmlpinoeaaGreat
open Go.RowKit
def widW (lo hi : List Int) (k : Nat) : Int := hi.getD k 0 - lo.getD k 0 + 1
def cntW (lo hi : List Int) : Nat → Int
  | 0 => 1
  | k + 1 => cntW lo hi k * widW lo hi k
def spanL (a : Int) (n : Nat) : List Int := (List.range n).map fun m : Nat => a + (m : Int)
def extL (lo hi : List Int) (k : Nat) (v : List Int) : List (List Int) := (spanL (lo.getD k 0) (widW lo hi k).toNat).map fun n => v ++ [n]
def boxTo (lo hi : List Int) : Nat → List (List Int)
  | 0 => [[]]
  | k + 1 => (boxTo lo hi k).flatMap (extL lo hi k)
def okTo (lo hi : List Int) : Nat → Bool
  | 0 => true
  | k + 1 => okTo lo hi k && decide (cntW lo hi (k + 1) ≤ 4000)
def boxO (lo hi : List Int) : Option (List (List Int)) := if okTo lo hi lo.length then some (boxTo lo hi lo.length) else none
def rowsX (l : List Row) : List (List Int) := l.map Row.xs
def BoxR (th t : TypeId) (L : List (List Int)) (k : Nat) (v : AV) (Hout : List (Nat × Blk)) (n1 : Nat) : Prop := ∃ l cap, rowsX l = L ∧ v = .tup [.one (.sl k 1 0 l.length cap), .one (.bool true)] ∧ Hout = [(k, .own th cap (.rows false true l)), (k + 1, .tok t false l)] ∧ n1 = k + 2
theorem spanL_next {a : Int} {m : Nat} : spanL a (m + 1) = spanL a m ++ [a + (m : Int)] := by simp [spanL, List.range_succ]
def midL (lo hi : List Int) (i j m : Nat) : List (List Int) := ((boxTo lo hi i).take j).flatMap (extL lo hi i) ++ (spanL (lo.getD i 0) m).map fun n => (boxTo lo hi i).getD j [] ++ [n]
theorem rowsX_len {l : List Row} {L : List (List Int)} (h : rowsX l = L) : l.length = L.length := by rw [← h]; simp [rowsX]
theorem rowsX_at {l : List Row} {L : List (List Int)} (h : rowsX l = L) {j : Nat} (hj : j < l.length) : (l.getD (0 + (j : Int).toNat) rowD).xs = L.getD j [] := by
  rw [← h]; simp [rowsX, hj]
end Go.Proofs.YtfkbjkmlpinoeaaGreat
namespace Go.Proofs.YtfkbjkmlpinoeaaGreat
theorem getD_in {α : Type} {l : List α} {i : Nat} {d : α} (h : i < l.length) : l.getD i d = l[i] := by simp [h]
theorem getD_appL {α : Type} {l m : List α} {i : Nat} {d : α} (h : i < l.length) : (l ++ m).getD i d = l.getD i d := by
  rw [List.getD_eq_getElem?_getD, List.getElem?_append_left h, ← List.getD_eq_getElem?_getD]
theorem getD_appR {α : Type} {l m : List α} {i : Nat} {d : α} (h : l.length ≤ i) : (l ++ m).getD i d = m.getD (i - l.length) d := by
  rw [List.getD_eq_getElem?_getD, List.getElem?_append_right h, ← List.getD_eq_getElem?_getD]
def fromI (v : List Int) (k : Nat) : Int := if 0 < k then v.getD (k - 1) 0 + 1 else 0
def extC (n k : Nat) (v : List Int) : List (List Int) := (spanL (fromI v k) ((n : Int) - fromI v k).toNat).map fun x => v ++ [x]
def chTo (n : Nat) : Nat → List (List Int)
  | 0 => [[]]
  | k + 1 => (chTo n k).flatMap (extC n k)
theorem fromI_snoc {u : List Int} {k : Nat} {x : Int} (h : u.length = k) : fromI (u ++ [x]) (k + 1) = x + 1 := by
  subst h
  simp [fromI]
theorem chTo_mem {n : Nat} : ∀ {k : Nat} {v : List Int}, v ∈ chTo n k → v.length = k ∧ (∀ x ∈ v, 0 ≤ x ∧ x < (n : Int)) ∧ 0 ≤ fromI v k ∧ fromI v k ≤ n
  | 0, v, h => by
    simp only [chTo, List.mem_singleton] at h
    subst h
    simp [fromI]
  | k + 1, v, h => by
    simp only [chTo, extC, spanL, List.mem_flatMap, List.mem_map, List.mem_range] at h
    obtain ⟨u, hu, x, ⟨m, hm, rfl⟩, rfl⟩ := h
    obtain ⟨h1, h2, h3, h4⟩ := chTo_mem hu
    refine ⟨by simp [h1], fun x hx => ?_, ?_, ?_⟩
    · rcases List.mem_append.1 hx with hx | hx
      · exact h2 x hx
      · have := List.mem_singleton.1 hx
        omega
    · rw [fromI_snoc h1]; omega
    · rw [fromI_snoc h1]; omega
theorem extC_len (n k : Nat) (v : List Int) (h : 0 ≤ fromI v k) : (extC n k v).length ≤ n := by simp [extC, spanL]; omega
theorem chFlat_len {n k : Nat} : ∀ {l : List (List Int)}, (∀ v ∈ l, v ∈ chTo n k) → (l.flatMap (extC n k)).length ≤ l.length * n
  | [], _ => by simp
  | v :: l, h => by
    have h1 := extC_len n k v (chTo_mem (h v (by simp))).2.2.1
    have h2 := chFlat_len (l := l) fun u hu => h u (by simp [hu])
    rw [List.flatMap_cons, List.length_append, List.length_cons, Nat.succ_mul]; omega
theorem chTo_len {n : Nat} (hn : n ≤ 8) : ∀ {k : Nat}, k ≤ 2 → (chTo n k).length ≤ 64 ∧ (k = 0 → (chTo n k).length = 1) ∧ (k = 1 → (chTo n k).length ≤ 8)
  | 0, _ => by simp [chTo]
  | 1, _ => by
    have := chFlat_len (n := n) (k := 0) (l := chTo n 0) fun v h => h
    simp only [chTo, List.length_singleton, Nat.one_mul] at this ⊢
    omega
  | 2, _ => by
    have h1 := (chTo_len hn (k := 1) (by omega)).2.2 rfl
    have := chFlat_len (n := n) (k := 1) (l := chTo n 1) fun v h => h
    have h2 := Nat.mul_le_mul h1 hn
    rw [chTo]
    omega
def midC (n k j m : Nat) : List (List Int) := ((chTo n k).take j).flatMap (extC n k) ++ (spanL (fromI ((chTo n k).getD j []) k) m).map fun x => (chTo n k).getD j [] ++ [x]
theorem midC_zero {n k j : Nat} : midC n k j 0 = ((chTo n k).take j).flatMap (extC n k) := by simp [midC, spanL]
theorem midC_next {n k j m : Nat} : midC n k j (m + 1) = midC n k j m ++ [(chTo n k).getD j [] ++ [fromI ((chTo n k).getD j []) k + (m : Int)]] := by
  simp [midC, spanL_next]
theorem midC_row {n k j : Nat} (hj : j < (chTo n k).length) : midC n k j ((n : Int) - fromI ((chTo n k).getD j []) k).toNat = midC n k (j + 1) 0 := by
  rw [midC_zero, List.take_succ_eq_append_getElem hj, List.flatMap_append]
  simp [midC, extC, hj]
theorem midC_full {n k : Nat} : midC n k (chTo n k).length 0 = chTo n (k + 1) := by rw [midC_zero, List.take_length, chTo]
theorem midC_len {n k j m : Nat} (hn : n ≤ 8) (hk : k ≤ 1) (hj : j ≤ (chTo n k).length) (hm : m ≤ 8) : (midC n k j m).length ≤ 1000 := by
  have h1 := chFlat_len (n := n) (k := k) (l := (chTo n k).take j) fun v h => List.mem_of_mem_take h
  have h2 := (chTo_len hn (k := k) (by omega)).1
  have h3 : ((chTo n k).take j).length ≤ 64 := by rw [List.length_take]; omega
  have h4 := Nat.mul_le_mul h3 hn
  simp only [midC, List.length_append, List.length_map, spanL, List.length_range]
  omega
theorem mem_span {a x : Int} {n : Nat} : x ∈ spanL a n ↔ a ≤ x ∧ x < a + n := by
  simp only [spanL, List.mem_map, List.mem_range]
  constructor
  · rintro ⟨m, hm, rfl⟩; omega
  · rintro ⟨h1, h2⟩; exact ⟨(x - a).toNat, by omega, by omega⟩
theorem chTo_next {n k : Nat} {v : List Int} {x : Int} (h : v ∈ chTo n k) (h1 : fromI v k ≤ x) (h2 : x < n) : v ++ [x] ∈ chTo n (k + 1) := by
  rw [chTo, List.mem_flatMap]
  refine ⟨v, h, ?_⟩
  rw [extC, List.mem_map]
  exact ⟨x, mem_span.2 ⟨h1, by omega⟩, rfl⟩
theorem chTo_one {n i : Nat} (h : i < n) : [(i : Int)] ∈ chTo n 1 := by
  have := chTo_next (n := n) (k := 0) (v := []) (x := i) (by simp [chTo]) (by simp [fromI]) (by omega)
  simpa using this
theorem chTo_two {n i j : Nat} (h : i < j) (h2 : j < n) : [(i : Int), (j : Int)] ∈ chTo n 2 := by
  have := chTo_next (n := n) (k := 1) (v := [(i : Int)]) (x := j) (chTo_one (by omega)) (by simp [fromI]; omega) (by omega)
  simpa using this
end Go.Proofs.YtfkbjkmlpinoeaaGreat
namespace Go.Proofs.YtfkbjkmlpinoeaaGreat
open Go.RowKit
def EchO (r c : Int) (t : TypeId) (o : Option Nat) (v : AV) (Hout : List (Nat × Blk)) (n1 : Nat) : Prop := match o with
  | none => v = .tup [.agg zeroM, .one (.sl 2 1 0 0 0), .one (.bool false)] ∧ Hout = [(2, .own t 0 (.ints []))] ∧ n1 = 3
  | some rk => ∃ ys pv : List Int, ∃ cy cp : Nat, pv.length = rk ∧ v = .tup [.agg [.int r, .int c, .sl 2 1 0 ys.length cy], .one (.sl 3 1 0 pv.length cp), .one (.bool true)] ∧ Hout = [(2, .own t cy (.ints ys)), (3, .own t cp (.ints pv))] ∧ n1 = 4
theorem isM_dims {r c : Int} {xs : List Int} (h : isM r c xs = true) : ∃ a b : Nat, r = a ∧ c = b ∧ a ≤ 24 ∧ b ≤ 24 ∧ xs.length = a * b ∧ xs.all numB = true := by
  simp only [isM, Bool.and_eq_true, decide_eq_true_eq] at h
  obtain ⟨⟨h1, h2, h3, h4, h5⟩, h6⟩ := h
  obtain ⟨a, rfl⟩ := Int.eq_ofNat_of_zero_le h1
  obtain ⟨b, rfl⟩ := Int.eq_ofNat_of_zero_le h3
  exact ⟨a, b, rfl, rfl, by omega, by omega, by exact_mod_cast h5, h6⟩
def rankB (r c : Int) (xs : List Int) : Option Nat := if isM r c xs then rankO xs r.toNat c.toNat else none
theorem sl_eqE {k sz off a b cap : Nat} {m : Nat → Nat} (h : a = b) : some (AV.one (.sl (m k) sz off a cap)) = some ((AV.one (.sl k sz off b cap)).ren m) := by subst h; rfl
def swX (ys : List Int) (p t b : Nat) : List Int := if p = t then ys else swapTo ys (p * b) (t * b) b
set_option maxHeartbeats 4000000 in
theorem d_echI (r c : Int) (xs : List Int) (ca : Nat) (hl : xs.length ≤ 1099511627776) : Does Tryz.prog 68 [vM r c 1 xs.length ca] [(1, .ro (.ints xs))] 2 (EchO r c 3 (rankB r c xs)) := by
 refine Does.intro TT Tryz.func68 rfl (by kernel_rfl) Zz Zz fun E hE => ?_
 cases hm : isM r c xs
 ·have hR : rankB r c xs = none := by simp [rankB, hm]
  rw [hR]
  ((repeat' (first | refine stx ?_ | ((first | refine w_z (d_isMatI _ _ _ _ hl) Zz Zz Zz Zz Zz Zz Zz Zz ft Zz Zz ?_ | refine w_A (d_isMatI _ _ _ _ hl) Zz Zz Zz Zz Zz Zz Zz Zz ft Zz Zz ?_) <;> simp only [hm]) | (refine stq ?_ ?_ <;> (intro hc; ((try simp at hc) <;> try contradiction))) | fail)) <;> try (exfalso; omega))
  exact fin rfl w_3 [(2, 4)] (.tup [.agg zeroM, .one (.sl 2 1 0 0 0), .one (.bool false)]) [(2, .own 3 0 (.ints []))] 3 ⟨rfl, rfl, rfl⟩ rfl ⟨trivial, ⟨rfl, trivial⟩, rfl⟩ rfl
 ·obtain ⟨a, b, rfl, rfl, ha, hb, hx, hnum⟩ := isM_dims hm
  have hR : rankB a b xs = rankO xs a b := by simp [rankB, hm]
  rw [hR]
  ((repeat' (first | refine stx ?_ | ((first | refine w_z (d_isMatI _ _ _ _ hl) Zz Zz Zz Zz Zz Zz Zz Zz ft Zz Zz ?_ | refine w_A (d_isMatI _ _ _ _ hl) Zz Zz Zz Zz Zz Zz Zz Zz ft Zz Zz ?_) <;> simp only [hm]) | (refine w_C (d_copyI _ _ xs _ hl) Zz Zz Zz Zz Zz Zz Zz ft Zz Zz (CopyM.out) ?_; rintro v b ⟨c1, hc1, rfl, he, -⟩; cases he) | (refine stq ?_ ?_ <;> (intro hc; ((try simp at hc) <;> try contradiction))) | fail)) <;> try (exfalso; omega))
  refine w_G hE (fun i : Nat => i ≤ a) (fun i => a - i)
   (fun i => [(2, .one (.ptr 3 3 0 0)), (5, .one (.ptr 5 3 0 0)), (6, vS 6 1 0 0 0), (7, vI i)]) (fun i => [(3, .own 26 1 (.lit zeroM)), (4, .own 3 c1 (.ints (primAll xs b i))), (5, .own 26 1 (.lit [.int a, .int b, .sl 4 1 0 xs.length c1])), (6, .own 3 0 (.ints []))]) 7 [] 0 (Nat.zero_le _) ⟨w_1, w_2, rfl⟩ ?_
  intro i hi
  obtain ⟨p1, p2⟩ := primAll_ok (c := b) hnum i
  by_cases hia : i < a
  ·have hin := row_in (c := b) hia
   ((repeat' (first | refine stx ?_ | ((refine w_E (d_rowAt a b i xs.length c1 (primAll xs b i) p2.symm (by omega) (by omega) ha hb hia) Zz Zz Zz Zz Zz Zz Zz ft rfl ?_); rintro v Hout n1 ⟨cp1, rfl, rfl, rfl⟩) | ((refine w_E (d_primI (primAll xs b i) (i * b) b _ c1 (by omega) (by omega) p1) Zz Zz Zz Zz Zz Zz Zz ft rfl ?_); rintro v Hout n1 ⟨rfl, rfl, rfl⟩) | (refine stq ?_ ?_ <;> (intro hc; ((try simp at hc) <;> try contradiction))) | fail)) <;> try (exfalso; omega))
   refine ⟨[], i + 1, hia, w_4, ⟨w_1, ⟨rfl, rfl, rfl, rfl, trivial⟩, rfl⟩⟩
  ·obtain rfl : i = a := by omega
   ((repeat' (first | refine stx ?_ | (refine stq ?_ ?_ <;> (intro hc; ((try simp at hc) <;> try contradiction))) | fail)) <;> try (exfalso; omega))
   refine w_G hE (fun p : Nat × (List Int × Nat) × List Int × Nat => p.1 ≤ b ∧ echTo xs i b p.1 = some p.2.1 ∧ p.2.2.1.length = p.2.1.2 ∧ p.2.2.1.length ≤ p.2.2.2) (fun p => b - p.1)
    (fun p => [(2, .one (.ptr 3 3 0 0)), (5, .one (.ptr 5 3 0 0)), (6, vS 6 1 0 p.2.2.1.length p.2.2.2), (8, vI p.1)]) (fun p => [(3, .own 26 1 (.lit zeroM)), (4, .own 3 c1 (.ints p.2.1.1)), (5, .own 26 1 (.lit [.int i, .int b, .sl 4 1 0 xs.length c1])), (6, .own 3 p.2.2.2 (.ints p.2.2.1))]) 7 [] (0, (primAll xs b i, 0), [], 0) ⟨Nat.zero_le _, rfl, rfl, Nat.le_refl _⟩ ⟨w_1, w_2, rfl⟩ ?_
   rintro ⟨j, ⟨ys, t⟩, pv, pc⟩ ⟨hj, he, hpv, hpc⟩
   dsimp only at hj he hpv hpc ⊢
   obtain ⟨y1, y2, y3, y4⟩ := echTo_ok hnum he
   dsimp only at y1 y2 y3 y4
   subst hpv
   by_cases hjb : j < b
   ·((repeat' (first | refine stx ?_ | (refine stq ?_ ?_ <;> (intro hc; ((try simp at hc) <;> try contradiction))) | fail)) <;> try (exfalso; omega))
    refine w_G hE (fun p : Nat => pv.length ≤ p ∧ p ≤ i ∧ findP ys b j i p = findP ys b j i pv.length) (fun p => i - p)
     (fun p => [(2, .one (.ptr 3 3 0 0)), (5, .one (.ptr 5 3 0 0)), (6, vS 6 1 0 pv.length pc), (8, vI j), (9, vI pv.length), (10, vI p)]) (fun _ => [(3, .own 26 1 (.lit zeroM)), (4, .own 3 c1 (.ints ys)), (5, .own 26 1 (.lit [.int i, .int b, .sl 4 1 0 xs.length c1])), (6, .own 3 pc (.ints pv))]) 7 [] pv.length ⟨Nat.le_refl _, y4, rfl⟩ ⟨w_1, w_2, rfl⟩ ?_
    rintro p ⟨q1, q2, q3⟩
    by_cases hpi : p < i
    ·have hcell := cell_facts hpi hjb ha hb
     have ecell := cell_nat (p := p) (k := j) (c := b)
     have hd := d_at i b p j ys c1 (by omega) (by omega) (by omega) (by omega)
     rw [y2] at hd
     have hraw : ys[((p : Int) * b + j).toNat]?.getD 0 = ys.getD (p * b + j) 0 := by rw [← ecell, Nat.zero_add, List.getD_eq_getElem?_getD]
     have hf : findP ys b j i p = if ys.getD (p * b + j) 0 = 0 then findP ys b j i (p + 1) else p := by rw [findP, if_pos hpi]
     ((repeat' (first | refine stx ?_ | (first | refine w_z (hd) Zz Zz Zz Zz Zz Zz Zz Zz ft Zz Zz ?_ | refine w_A (hd) Zz Zz Zz Zz Zz Zz Zz Zz ft Zz Zz ?_) | ((refine w_E (d_swapI i b p pv.length xs.length c1 c1 ys y2.symm (by omega) (by omega) ha hb hpi (by omega) (by omega)) Zz Zz Zz Zz Zz Zz Zz ft rfl ?_); rintro v Hout n1 ⟨rfl, rfl, rfl⟩) | (refine stq ?_ ?_ <;> (intro hc; ((try simp at hc) <;> try contradiction))) | fail)) <;> try (exfalso; omega))
     ·refine ⟨[], p + 1, ⟨by omega, by omega, ?_⟩, w_4, ⟨w_1, w_2, rfl⟩⟩
      rw [← q3, hf, if_pos (by rw [← hraw]; exact hc)]
     all_goals
      have hne0 : ys.getD (p * b + j) 0 ≠ 0 := by rw [← hraw]; assumption
      have hfp : findP ys b j i pv.length = p := by rw [← q3, hf, if_neg hne0]
      have hX1 : (swX ys p pv.length b).all numB = true ∧ (swX ys p pv.length b).length = xs.length := by
       unfold swX
       split
       ·exact ⟨y1, y2⟩
       ·exact ⟨swapTo_num y1, by rw [swapTo_len, y2]⟩
      refine w_G hE (fun q : Nat × List Int => q.1 ≤ i ∧ elimTo (swX ys p pv.length b) b pv.length j q.1 = some q.2) (fun q => i - q.1)
       (fun q => [(2, .one (.ptr 3 3 0 0)), (5, .one (.ptr 5 3 0 0)), (6, vS 6 1 0 pv.length pc), (8, vI j), (9, vI pv.length), (11, vI q.1)]) (fun q => [(3, .own 26 1 (.lit zeroM)), (4, .own 3 c1 (.ints q.2)), (5, .own 26 1 (.lit [.int i, .int b, .sl 4 1 0 xs.length c1])), (6, .own 3 pc (.ints pv))]) 7 [] (0, swX ys p pv.length b) ⟨Nat.zero_le _, rfl⟩ ⟨w_1, ⟨rfl, own_ints (by dsimp only; unfold swX; first | exact (if_pos (by omega)).symm | exact (if_neg (by omega)).symm), rfl, rfl, trivial⟩, rfl⟩ ?_
      rintro ⟨k, zs⟩ ⟨r1, r2⟩
      dsimp only at r1 r2 ⊢
      obtain ⟨z1, z2⟩ := elimTo_ok hX1.1 r2
      rw [hX1.2] at z2
      have ht : pv.length < i := by omega
      by_cases hki : k < i
      ·have cellk := cell_facts hki hjb ha hb
       have cellt := cell_facts ht hjb ha hb
       have ek := cell_nat (p := k) (k := j) (c := b)
       have et := cell_nat (p := pv.length) (k := j) (c := b)
       have hd1 := d_at i b k j zs c1 (by omega) (by omega) (by omega) (by omega)
       have hd2 := d_at i b pv.length j zs c1 (by omega) (by omega) (by omega) (by omega)
       rw [z2] at hd1 hd2
       have rawk : zs[((k : Int) * b + j).toNat]?.getD 0 = zs.getD (k * b + j) 0 := by rw [← ek, Nat.zero_add, List.getD_eq_getElem?_getD]
       by_cases hskip : k = pv.length ∨ zs.getD (k * b + j) 0 = 0
       ·((repeat' (first | refine stx ?_ | (first | refine w_z (hd1) Zz Zz Zz Zz Zz Zz Zz Zz ft Zz Zz ?_ | refine w_A (hd1) Zz Zz Zz Zz Zz Zz Zz Zz ft Zz Zz ?_) | (refine stq ?_ ?_ <;> (intro hc; ((try simp at hc) <;> try contradiction))) | fail)) <;> try (exfalso; omega))
        all_goals exact ⟨[], (k + 1, zs), ⟨by omega, elim_skip r2 hskip⟩, w_4, ⟨w_1, w_2, rfl⟩⟩
       ·have hk1 : k ≠ pv.length := fun h => hskip (.inl h)
        have hk2 : zs.getD (k * b + j) 0 ≠ 0 := fun h => hskip (.inr h)
        have nx := num_getD z1 (0 + ((k : Int) * b + j).toNat)
        have ny := num_getD z1 (0 + ((pv.length : Int) * b + j).toNat)
        have hG : (Int.gcd (zs.getD (0 + ((k : Int) * b + j).toNat) 0) (zs.getD (0 + ((pv.length : Int) * b + j).toNat) 0) : Int) ≠ 0 := by
         intro h
         have h' : Int.gcd (zs.getD (0 + ((k : Int) * b + j).toNat) 0) (zs.getD (0 + ((pv.length : Int) * b + j).toNat) 0) = 0 := by exact_mod_cast h
         rw [Int.gcd_eq_zero_iff] at h'
         exact hk2 (by rw [← ek]; exact h'.1)
        have g1 := tdiv_bd (zs.getD (0 + ((pv.length : Int) * b + j).toNat) 0) (Int.gcd (zs.getD (0 + ((k : Int) * b + j).toNat) 0) (zs.getD (0 + ((pv.length : Int) * b + j).toNat) 0) : Int)
        have g2 := tdiv_bd (zs.getD (0 + ((k : Int) * b + j).toNat) 0) (Int.gcd (zs.getD (0 + ((k : Int) * b + j).toNat) 0) (zs.getD (0 + ((pv.length : Int) * b + j).toNat) 0) : Int)
        have hap := row_apart (c := b) hk1
        ((repeat' (first | refine stx ?_ | (first | refine w_z (hd1) Zz Zz Zz Zz Zz Zz Zz Zz ft Zz Zz ?_ | refine w_A (hd1) Zz Zz Zz Zz Zz Zz Zz Zz ft Zz Zz ?_) | (first | refine w_z (hd2) Zz Zz Zz Zz Zz Zz Zz Zz ft Zz Zz ?_ | refine w_A (hd2) Zz Zz Zz Zz Zz Zz Zz Zz ft Zz Zz ?_) | (first | refine w_z (d_gcd _ _ (by omega) (by omega)) Zz Zz Zz Zz Zz Zz Zz Zz ft Zz Zz ?_ | refine w_A (d_gcd _ _ (by omega) (by omega)) Zz Zz Zz Zz Zz Zz Zz Zz ft Zz Zz ?_) | (refine stq ?_ ?_ <;> (intro hc; ((try simp at hc) <;> try contradiction))) | fail)) <;> try (exfalso; omega))
        all_goals
         refine w_G hE (fun m : Nat => m ≤ b ∧ elimOK zs b k pv.length j m = true) (fun m => b - m)
          (fun m => [(2, .one (.ptr 3 3 0 0)), (5, .one (.ptr 5 3 0 0)), (6, vS 6 1 0 pv.length pc), (8, vI j), (9, vI pv.length), (11, vI k), (12, vI (zs.getD (0 + ((k : Int) * b + j).toNat) 0)), (13, vI (zs.getD (0 + ((pv.length : Int) * b + j).toNat) 0)), (14, vI (Int.gcd (zs.getD (0 + ((k : Int) * b + j).toNat) 0) (zs.getD (0 + ((pv.length : Int) * b + j).toNat) 0) : Int)), (15, vI m)]) (fun m => [(3, .own 26 1 (.lit zeroM)), (4, .own 3 c1 (.ints (updTo zs (k * b) (elimF zs b k pv.length j) m))), (5, .own 26 1 (.lit [.int i, .int b, .sl 4 1 0 xs.length c1])), (6, .own 3 pc (.ints pv))]) 7 [] 0 ⟨Nat.zero_le _, rfl⟩ ⟨w_1, w_2, rfl⟩ ?_
         rintro m ⟨hm1, hm2⟩
         have hU : (updTo zs (k * b) (elimF zs b k pv.length j) m).length = xs.length := updTo_len.trans z2
         by_cases hmb : m < b
         ·have cm := cell_facts hki hmb ha hb
          have ct := cell_facts ht hmb ha hb
          have em := cell_nat (p := k) (k := m) (c := b)
          have etm := cell_nat (p := pv.length) (k := m) (c := b)
          have hd3 := d_at i b k m (updTo zs (k * b) (elimF zs b k pv.length j) m) c1 (by omega) (by omega) (by omega) (by omega)
          have hd4 := d_at i b pv.length m (updTo zs (k * b) (elimF zs b k pv.length j) m) c1 (by omega) (by omega) (by omega) (by omega)
          rw [hU] at hd3 hd4
          have am := updTo_at (xs := zs) (off := k * b) (f := elimF zs b k pv.length j) (p := k * b + m) (k := m) (by omega)
          have atm := updTo_at (xs := zs) (off := k * b) (f := elimF zs b k pv.length j) (p := pv.length * b + m) (k := m) (by omega)
          have nv := num_getD z1 (k * b + m)
          have nw := num_getD z1 (pv.length * b + m)
          rw [← am, ← em] at nv
          rw [← atm, ← etm] at nw
          have m1 := mul_bd (A := 400000000) (B := 400000000) (a := (zs.getD (0 + ((pv.length : Int) * b + j).toNat) 0).tdiv (Int.gcd (zs.getD (0 + ((k : Int) * b + j).toNat) 0) (zs.getD (0 + ((pv.length : Int) * b + j).toNat) 0) : Int)) (by omega) (by omega) nv.1 nv.2
          have m2 := mul_bd (A := 400000000) (B := 400000000) (a := (zs.getD (0 + ((k : Int) * b + j).toNat) 0).tdiv (Int.gcd (zs.getD (0 + ((k : Int) * b + j).toNat) 0) (zs.getD (0 + ((pv.length : Int) * b + j).toNat) 0) : Int)) (by omega) (by omega) nw.1 nw.2
          have hval : (zs.getD (0 + ((pv.length : Int) * b + j).toNat) 0).tdiv (Int.gcd (zs.getD (0 + ((k : Int) * b + j).toNat) 0) (zs.getD (0 + ((pv.length : Int) * b + j).toNat) 0) : Int) * (updTo zs (k * b) (elimF zs b k pv.length j) m).getD (0 + ((k : Int) * b + m).toNat) 0 - (zs.getD (0 + ((k : Int) * b + j).toNat) 0).tdiv (Int.gcd (zs.getD (0 + ((k : Int) * b + j).toNat) 0) (zs.getD (0 + ((pv.length : Int) * b + j).toNat) 0) : Int) * (updTo zs (k * b) (elimF zs b k pv.length j) m).getD (0 + ((pv.length : Int) * b + m).toNat) 0 = elimF zs b k pv.length j m (zs.getD (k * b + m) 0) := by rw [ek, et, em, etm, am, atm]; rfl
          cases hnb : numB (elimF zs b k pv.length j m (zs.getD (k * b + m) 0))
          ·have hnb' : numB ((zs.getD (0 + ((pv.length : Int) * b + j).toNat) 0).tdiv (Int.gcd (zs.getD (0 + ((k : Int) * b + j).toNat) 0) (zs.getD (0 + ((pv.length : Int) * b + j).toNat) 0) : Int) * (updTo zs (k * b) (elimF zs b k pv.length j) m).getD (0 + ((k : Int) * b + m).toNat) 0 - (zs.getD (0 + ((k : Int) * b + j).toNat) 0).tdiv (Int.gcd (zs.getD (0 + ((k : Int) * b + j).toNat) 0) (zs.getD (0 + ((pv.length : Int) * b + j).toNat) 0) : Int) * (updTo zs (k * b) (elimF zs b k pv.length j) m).getD (0 + ((pv.length : Int) * b + m).toNat) 0) = false := by rw [hval]; exact hnb
           have hbad : rankO xs i b = none := rank_bad hjb he hfp hpi r2 hki hk1 hk2 hmb hnb
           rw [hbad]
           ((repeat' (first | refine stx ?_ | (first | refine w_z (hd3) Zz Zz Zz Zz Zz Zz Zz Zz ft Zz Zz ?_ | refine w_A (hd3) Zz Zz Zz Zz Zz Zz Zz Zz ft Zz Zz ?_) | (first | refine w_z (hd4) Zz Zz Zz Zz Zz Zz Zz Zz ft Zz Zz ?_ | refine w_A (hd4) Zz Zz Zz Zz Zz Zz Zz Zz ft Zz Zz ?_) | ((first | refine w_z (d_numI _) Zz Zz Zz Zz Zz Zz Zz Zz ft Zz Zz ?_ | refine w_A (d_numI _) Zz Zz Zz Zz Zz Zz Zz Zz ft Zz Zz ?_) <;> simp only [hnb']) | (refine stq ?_ ?_ <;> (intro hc; ((try simp at hc) <;> try contradiction))) | fail)) <;> try (exfalso; omega))
           exact fin rfl w_3 [(2, 7)] (.tup [.agg zeroM, .one (.sl 2 1 0 0 0), .one (.bool false)]) [(2, .own 3 0 (.ints []))] 3 ⟨rfl, rfl, rfl⟩ rfl ⟨trivial, ⟨rfl, trivial⟩, rfl⟩ rfl
          ·have hnb' : numB ((zs.getD (0 + ((pv.length : Int) * b + j).toNat) 0).tdiv (Int.gcd (zs.getD (0 + ((k : Int) * b + j).toNat) 0) (zs.getD (0 + ((pv.length : Int) * b + j).toNat) 0) : Int) * (updTo zs (k * b) (elimF zs b k pv.length j) m).getD (0 + ((k : Int) * b + m).toNat) 0 - (zs.getD (0 + ((k : Int) * b + j).toNat) 0).tdiv (Int.gcd (zs.getD (0 + ((k : Int) * b + j).toNat) 0) (zs.getD (0 + ((pv.length : Int) * b + j).toNat) 0) : Int) * (updTo zs (k * b) (elimF zs b k pv.length j) m).getD (0 + ((pv.length : Int) * b + m).toNat) 0) = true := by rw [hval]; exact hnb
           ((repeat' (first | refine stx ?_ | (first | refine w_z (hd3) Zz Zz Zz Zz Zz Zz Zz Zz ft Zz Zz ?_ | refine w_A (hd3) Zz Zz Zz Zz Zz Zz Zz Zz ft Zz Zz ?_) | (first | refine w_z (hd4) Zz Zz Zz Zz Zz Zz Zz Zz ft Zz Zz ?_ | refine w_A (hd4) Zz Zz Zz Zz Zz Zz Zz Zz ft Zz Zz ?_) | ((first | refine w_z (d_numI _) Zz Zz Zz Zz Zz Zz Zz Zz ft Zz Zz ?_ | refine w_A (d_numI _) Zz Zz Zz Zz Zz Zz Zz Zz ft Zz Zz ?_) <;> simp only [hnb']) | ((refine w_E (d_set i b k m _ (updTo zs (k * b) (elimF zs b k pv.length j) m) xs.length c1 c1 (by omega) (by omega) (by omega) (by omega) (by omega)) Zz Zz Zz Zz Zz Zz Zz ft rfl ?_); rintro v Hout n1 ⟨rfl, rfl, rfl⟩) | (refine stq ?_ ?_ <;> (intro hc; ((try simp at hc) <;> try contradiction))) | fail)) <;> try (exfalso; omega))
           refine ⟨[], m + 1, ⟨by omega, by rw [elimOK, hm2, hnb]; rfl⟩, w_4, ⟨w_1, ⟨rfl, own_ints ?_, rfl, rfl, trivial⟩, rfl⟩⟩
           rw [hval, em]; rfl
         ·obtain rfl : m = b := by omega
          have hUn := updTo_num (off := k * m) (f := elimF zs m k pv.length j) z1 (elimOK_at hm2)
          have hkin := row_in (c := m) hki
          ((repeat' (first | refine stx ?_ | ((refine w_E (d_rowAt i m k xs.length c1 (updTo zs (k * m) (elimF zs m k pv.length j) m) hU.symm (by omega) (by omega) ha hb hki) Zz Zz Zz Zz Zz Zz Zz ft rfl ?_); rintro v Hout n1 ⟨cp1, rfl, rfl, rfl⟩) | ((refine w_E (d_primI (updTo zs (k * m) (elimF zs m k pv.length j) m) (k * m) m _ c1 (by omega) (by omega) hUn) Zz Zz Zz Zz Zz Zz Zz ft rfl ?_); rintro v Hout n1 ⟨rfl, rfl, rfl⟩) | (refine stq ?_ ?_ <;> (intro hc; ((try simp at hc) <;> try contradiction))) | fail)) <;> try (exfalso; omega))
          exact ⟨[], (k + 1, primAt (updTo zs (k * m) (elimF zs m k pv.length j) m) (k * m) m), ⟨by omega, elim_do r2 hk1 hk2 hm2⟩, w_4, ⟨w_1, w_2, rfl⟩⟩
      ·obtain rfl : k = i := by omega
       ((repeat' (first | refine stx ?_ | (refine w_x TT Zz Zz Zz Zz Zz sd ?_; intro cap hcap) | (refine stq ?_ ?_ <;> (intro hc; ((try simp at hc) <;> try contradiction))) | fail)) <;> try (exfalso; omega))
       refine ⟨[(6, 8)], (j + 1, (zs, pv.length + 1), pv ++ [(j : Int)], cap), ⟨by omega, col_do he hfp hpi r2, by simp, by simpa using hcap⟩, w_4, ⟨⟨rfl, rfl, sl_eqE (k := 6) (m := mp [(6, 8)]) (by simp), rfl, trivial⟩, ⟨rfl, rfl, rfl, own_ints rfl, trivial⟩, rfl⟩⟩
    ·obtain rfl : p = i := by omega
     have hf : findP ys b j p p = p := by rw [findP, if_neg (by omega)]
     rw [hf] at q3
     ((repeat' (first | refine stx ?_ | (refine stq ?_ ?_ <;> (intro hc; ((try simp at hc) <;> try contradiction))) | fail)) <;> try (exfalso; omega))
     refine ⟨[], (j + 1, (ys, pv.length), pv, pc), ⟨by omega, ?_, rfl, hpc⟩, w_4, ⟨w_1, w_2, rfl⟩⟩
     show (echTo xs p b j).bind (colStep p b j) = _
     rw [he, Option.bind_some, colStep, if_neg (by dsimp only; omega)]
   ·obtain rfl : j = b := by omega
    have hrk : rankO xs i j = some pv.length := by simp [rankO, he]
    rw [hrk]
    ((repeat' (first | refine stp ?_ | (refine stq ?_ ?_ <;> (intro hc; ((try simp at hc) <;> try contradiction))) | fail)) <;> try (exfalso; omega))
    exact fin rfl w_3 [(2, 4), (3, 6)] (.tup [.agg [.int i, .int j, .sl 2 1 0 ys.length c1], .one (.sl 3 1 0 pv.length pc), .one (.bool true)]) [(2, .own 3 c1 (.ints ys)), (3, .own 3 pc (.ints pv))] 4 ⟨ys, pv, c1, pc, rfl, rfl, rfl, rfl⟩ (by rw [y2]; rfl) ⟨trivial, ⟨rfl, rfl, trivial⟩, rfl⟩ rfl
end Go.Proofs.YtfkbjkmlpinoeaaGreat
namespace Go.Proofs.YtfkbjkmlpinoeaaGreat
open Go.RowKit
theorem gcdOf_num {a b : Int} (ha : numB a = true) (hb : numB b = true) : gcdOf a b = (Int.gcd a b : Int) := by simp [gcdOf, ha, hb]
theorem d_fitY (n : Int) (h : numB n = true) : Does Tryz.prog 120 [vI n] [] 1 (Ret (vI n) 1) := by
 refine Does.intro TT Tryz.func120 rfl (by kernel_rfl) Zz Zz fun E hE => ?_
 have h' : inB n (-400000000) 400000000 = true := h
 (repeat' (first | refine stx ?_ | ((first | refine w_z (d_l1In _ _ _) Zz Zz Zz Zz Zz Zz Zz Zz ft Zz Zz ?_ | refine w_A (d_l1In _ _ _) Zz Zz Zz Zz Zz Zz Zz Zz ft Zz Zz ?_) <;> simp only [h']) | (refine stq ?_ ?_ <;> (intro hc; ((try simp at hc) <;> try contradiction))) | fail))
 refine fin_ret rfl w_3 (rfl) rfl
theorem d_fitE (n z : Int) (e : n = z) (h : numB z = true) : Does Tryz.prog 120 [vI n] [] 1 (Ret (vI z) 1) := by
  subst e; exact d_fitY n h
theorem d_fitN (n : Int) (h : numB n = false) : Does Tryz.prog 120 [vI n] [] 1 (Ret (vI (-4611686018427387904)) 1) := by
 refine Does.intro TT Tryz.func120 rfl (by kernel_rfl) Zz Zz fun E hE => ?_
 have h' : inB n (-400000000) 400000000 = false := h
 (repeat' (first | refine stx ?_ | ((first | refine w_z (d_l1In _ _ _) Zz Zz Zz Zz Zz Zz Zz Zz ft Zz Zz ?_ | refine w_A (d_l1In _ _ _) Zz Zz Zz Zz Zz Zz Zz Zz ft Zz Zz ?_) <;> simp only [h']) | (refine stq ?_ ?_ <;> (intro hc; ((try simp at hc) <;> try contradiction))) | fail))
 refine fin_ret rfl w_3 (rfl) rfl
def minRow (xs : List Int) (off col : Nat) : Nat → List Int
  | 0 => []
  | j + 1 => if j = col then minRow xs off col j else minRow xs off col j ++ [xs.getD (off + j) 0]
def minM (xs : List Int) (c row col : Nat) : Nat → List Int
  | 0 => []
  | i + 1 => if i = row then minM xs c row col i else minM xs c row col i ++ minRow xs (i * c) col c
def detTo (xs : List Int) (d : Nat → Option Int) : Nat → Option Int
  | 0 => some 0
  | j + 1 => match detTo xs d j with
    | none => none
    | some s => if xs.getD j 0 = 0 then some s else match d j with
      | none => none
      | some v => some (s + (if j % 2 = 1 then -(xs.getD j 0) else xs.getD j 0) * v)
def fitO (o : Option Int) : Option Int := match o with
  | none => none
  | some s => if numB s then some s else none
def detZ : Nat → List Int → Option Int
  | 0, _ => some 1
  | n + 1, xs => fitO (detTo xs (fun j => detZ n (minM xs (n + 1) 0 j (n + 1))) (n + 1))
def MinO (t : TypeId) (n : Nat) (ys : List Int) (v : AV) (Hout : List (Nat × Blk)) (n1 : Nat) : Prop := ∃ cap, ys.length ≤ cap ∧ v = .agg [.int n, .int n, .sl 2 1 0 ys.length cap] ∧ Hout = [(2, .own t cap (.ints ys))] ∧ n1 = 3
theorem MinO.out {t : TypeId} {n : Nat} {ys : List Int} : ∀ v Hout n1, MinO t n ys v Hout n1 → ∃ b, Hout = [(2, b)] ∧ n1 = 2 + 1 ∧ b.keys = [] := fun _ _ _ ⟨_, _, _, h2, h3⟩ => ⟨_, h2, h3, by simp [Blk.keys, Elts.keys, Elts.all, ints_keys]⟩
def minAt (xs : List Int) (c row col i j : Nat) : List Int := if i = row then minM xs c row col i else minM xs c row col i ++ minRow xs (i * c) col j
def detV : Option Int → AV
  | some d => .tup [.one (.int d), .one (.bool true)]
  | none => .tup [.one (.int 0), .one (.bool false)]
def DetO (o : Option Int) (v : AV) (Hout : List (Nat × Blk)) (n1 : Nat) : Prop := Hout = [] ∧ n1 = 2 ∧ match o with
  | some d => v = .tup [.one (.int d), .one (.bool true)]
  | none => ∃ d, v = .tup [.one (.int d), .one (.bool false)]
def badV : Option Int → Int
  | some d => d
  | none => -4611686018427387904
def sqB (r c : Int) (xs : List Int) : Bool := isM r c xs && decide (r = c ∧ r ≤ 6)
def detB (r c : Int) (xs : List Int) : Option Int := if sqB r c xs then detZ r.toNat xs else none
def unimB (r c : Int) (xs : List Int) : Bool := match detB r c xs with
  | some d => decide (d = 1 ∨ d = -1)
  | none => false
end Go.Proofs.YtfkbjkmlpinoeaaGreat
