/-
  TEXTS OF THE PROOF, put together: bHBox, pHilb, bHilbA.
-/
import Derived.Test.YtfkbjkmlpinoeaaGreatH29
import Derived.Test.YtfkbjkmlpinoeaaGreatH27
import Derived.Test.YtfkbjkmlpinoeaaGreatH19
set_option linter.unusedVariables false
set_option linter.unusedSimpArgs false
namespace Go.Proofs.YtfkbjkmlpinoeaaGreat
open Go.RowKit
def SlB (t : TypeId) (zs : List Int) (ok : Bool) (k : Nat) (v : AV) (Hout : List (Nat × Blk)) (n1 : Nat) : Prop := ∃ cap, zs.length ≤ cap ∧ v = .tup [.one (.sl k 1 0 zs.length cap), .one (.bool ok)] ∧ Hout = [(k, .own t cap (.ints zs))] ∧ n1 = k + 1
theorem SlB.out {t : TypeId} {zs : List Int} {ok : Bool} {k : Nat} : ∀ v Hout n1, SlB t zs ok k v Hout n1 → ∃ b, Hout = [(k, b)] ∧ n1 = k + 1 ∧ b.keys = [] := fun _ _ _ ⟨_, _, _, h2, h3⟩ => ⟨_, h2, h3, by simp [Blk.keys, Elts.keys, Elts.all, ints_keys]⟩
def SlO (t : TypeId) (o : Option (List Int)) (k : Nat) (v : AV) (Hout : List (Nat × Blk)) (n1 : Nat) : Prop := match o with
  | none => SlB t [] false k v Hout n1
  | some zs => SlB t zs true k v Hout n1
def colA (ys : List Int) (c k : Nat) : Nat → Int
  | 0 => 0
  | i + 1 => colA ys c k i + ((ys.getD (i * c + k) 0).natAbs : Int)
theorem colA_bd {ys : List Int} {c k : Nat} (h : ys.all numB = true) : ∀ i, 0 ≤ colA ys c k i ∧ colA ys c k i ≤ 400000000 * (i : Int)
  | 0 => by simp [colA]
  | i + 1 => by
    have ih := colA_bd (c := c) (k := k) h i
    have := num_getD h (i * c + k)
    rw [colA]; omega
def genT (f : Nat → Nat → Int) (c i j : Nat) : List Int := (List.range c).map fun k => f k (if k < j then i + 1 else i)
theorem genT_len {f : Nat → Nat → Int} {c i j : Nat} : (genT f c i j).length = c := by simp [genT]
theorem genT_at {f : Nat → Nat → Int} {c i j : Nat} (hj : j < c) : (genT f c i j).getD j 0 = f j i := by simp [genT, hj]
theorem genT_set {f : Nat → Nat → Int} {c i j : Nat} (hj : j < c) : (genT f c i j).set j (f j (i + 1)) = genT f c i (j + 1) := by
  apply List.ext_getElem (by simp [genT])
  intro p h1 h2
  rw [List.getElem_set]
  simp only [genT, List.getElem_map, List.getElem_range]
  by_cases cc : j = p
  · subst cc
    rw [if_pos rfl, if_pos (Nat.lt_succ_self j)]
  · rw [if_neg cc]
    by_cases c2 : p < j
    · rw [if_pos c2, if_pos (by omega)]
    · rw [if_neg c2, if_neg (by omega)]
theorem genT_next {f : Nat → Nat → Int} {c i : Nat} : genT f c i c = genT f c (i + 1) 0 := by
  apply List.ext_getElem (by simp [genT])
  intro p h1 h2
  have : p < c := by rw [genT_len] at h1; exact h1
  simp [genT, this]
theorem genT_zero {f : Nat → Nat → Int} {c : Nat} (h : ∀ k, f k 0 = 0) : List.replicate c 0 = genT f c 0 0 := by
  apply List.ext_getElem (by simp [genT])
  intro p h1 h2
  simp [genT, h]
def colB (ys : List Int) (c t : Nat) : List Int := genT (colA ys c) c t 0
def hboxB (r c : Int) (xs : List Int) : Option (List Int) := match raysB r c xs with
  | none => none
  | some s => if (colB s.1 c.toNat s.2).all numB then some (colB s.1 c.toNat s.2) else none
theorem raysB_dims {r c : Int} {xs : List Int} {s : List Int × Nat} (h : raysB r c xs = some s) : ∃ b : Nat, c = b ∧ 1 ≤ b ∧ b ≤ 3 ∧ s.2 ≤ 24 ∧ s.1.length = s.2 * b ∧ s.1.all numB = true := by
  rw [raysB, Option.map_eq_some_iff] at h
  obtain ⟨L, h1, rfl⟩ := h
  obtain ⟨a, b, raw, rfl, rfl, ha, hb1, hb, hx, hnum, hC, hp, -, -⟩ := raysO_some h1
  obtain ⟨e1, e2⟩ := raysO_row h1
  exact ⟨b, rfl, hb1, hb, e1, flat_len_le fun v hv => by have := (e2 v hv).1; omega, flat_num fun v hv => (e2 v hv).2⟩
set_option maxRecDepth 100000 in
set_option maxHeartbeats 4000000 in
theorem d_hboxI (r c : Int) (xs : List Int) (ca : Nat) (hl : xs.length ≤ 1099511627776) (hca : xs.length ≤ ca) : Does Tryz.prog 33 [vM r c 1 xs.length ca] [(1, .ro (.ints xs))] 2 (SlO 3 (hboxB r c xs) 2) := by
 have hr := d_raysI r c xs ca hl hca
 refine Does.intro TT Tryz.func33 rfl (by kernel_rfl) Zz Zz fun E hE => ?_
 unfold hboxB
 cases hB : raysB r c xs with
 | none =>
  rw [hB] at hr
  ((repeat' (first | refine stx ?_ | ((refine w_E (hr) Zz Zz Zz Zz Zz Zz Zz ft rfl ?_); rintro v Hout n1 ⟨rfl, rfl, rfl⟩) | (refine stq ?_ ?_ <;> (intro hc; ((try simp at hc) <;> try contradiction))) | fail)) <;> try (exfalso; omega))
  exact fin rfl w_3 [(2, 4)] (.tup [.one (.sl 2 1 0 0 0), .one (.bool false)]) [(2, .own 3 0 (.ints []))] 3 ⟨0, Nat.zero_le _, rfl, rfl, rfl⟩ rfl ⟨trivial, ⟨rfl, trivial⟩, rfl⟩ rfl
 | some s =>
  rw [hB] at hr
  obtain ⟨b, rfl, hb1, hb, ht, hyl, hyn⟩ := raysB_dims hB
  obtain ⟨ys, t⟩ := s
  dsimp only at ht hyl hyn ⊢
  simp only [Int.toNat_natCast]
  have hbd := fun k i => colA_bd (c := b) (k := k) hyn i
  ((repeat' (first | refine stx ?_ | ((refine w_E (hr) Zz Zz Zz Zz Zz Zz Zz ft rfl ?_); rintro v Hout n1 ⟨capy, hcapy, rfl, rfl, rfl⟩) | (refine stq ?_ ?_ <;> (intro hc; ((try simp at hc) <;> try contradiction))) | fail)) <;> try (exfalso; omega))
  dsimp only at hcapy
  refine w_G hE (fun i : Nat => i ≤ t) (fun i => t - i)
   (fun i => [(1, .one (.ptr 2 3 0 0)), (4, .one (.ptr 4 3 0 0)), (6, vS 5 1 0 b b), (7, vI i)])
   (fun i => [(1, .ro (.ints xs)), (2, .own 26 1 (.lit [.int r, .int b, .sl 1 1 0 xs.length ca])), (3, .own 3 capy (.ints ys)), (4, .own 26 1 (.lit [.int t, .int b, .sl 3 1 0 ys.length capy])), (5, .own 3 b (.ints (genT (colA ys b) b i 0)))]) 6 [] 0 (Nat.zero_le _) ⟨w_1, ⟨rfl, rfl, rfl, rfl, own_ints (genT_zero fun _ => rfl), trivial⟩, rfl⟩ ?_
  intro i hi
  by_cases hit : i < t
  ·have hin := row_in (c := b) hit
   have hkn : ¬ t ≤ i := by omega
   ((repeat' (first | refine stx ?_ | ((refine w_E (d_rowAt t b i ys.length capy ys rfl hyl hcapy (by omega) (by omega) hit) Zz Zz Zz Zz Zz Zz Zz ft rfl ?_); rintro v Hout n1 ⟨cp, rfl, rfl, rfl⟩) | (refine stq ?_ ?_ <;> (intro hc; ((try simp at hc) <;> try contradiction))) | fail)) <;> try (exfalso; omega))
   refine w_G hE (fun j : Nat => j ≤ b) (fun j => b - j)
    (fun j => [(1, .one (.ptr 2 3 0 0)), (4, .one (.ptr 4 3 0 0)), (6, vS 5 1 0 b b), (7, vI i), (29, vS 3 1 (i * b) b cp), (30, vI b), (31, vI j)])
    (fun j => [(1, .ro (.ints xs)), (2, .own 26 1 (.lit [.int r, .int b, .sl 1 1 0 xs.length ca])), (3, .own 3 capy (.ints ys)), (4, .own 26 1 (.lit [.int t, .int b, .sl 3 1 0 ys.length capy])), (5, .own 3 b (.ints (genT (colA ys b) b i j)))]) 6 [] 0 (Nat.zero_le _) ⟨w_1, w_2, rfl⟩ ?_
   intro j hj
   have hgl := genT_len (f := colA ys b) (c := b) (i := i) (j := j)
   by_cases hjb : j < b
   ·have hy := num_getD hyn (i * b + (j : Int).toNat)
    have hy2 := num_getD hyn (i * b + j)
    have hg := genT_at (f := colA ys b) (i := i) hjb
    have hg2 : (genT (colA ys b) b i j).getD (0 + (j : Int).toNat) 0 = colA ys b j i := by rw [show 0 + (j : Int).toNat = j by omega]; exact hg
    have hbj := hbd j i
    have hbj2 := hbj
    rw [← hg2] at hbj2
    have hbj3 := hbj
    rw [← hg] at hbj3
    simp only [List.getD_eq_getElem?_getD] at hbj3
    have hse := genT_set (f := colA ys b) (i := i) hjb
    ((repeat' (first | refine stp ?_ | (refine stq ?_ ?_ <;> (intro hc; ((try simp at hc) <;> try contradiction))) | fail)) <;> try (exfalso; omega))
    refine awp_held TM [] sb rfl (fun ρs => ?_)
    refine zt0 ?_
    refine zt1 ?_
    refine zt2 ?_
    refine zt4 ?_
    refine w_u [3, 5] kr rfl ⟨?_, ?_, trivial⟩
    first | (refine zho ?_) | refine w_B _ (d_absInt _ (by omega) (by omega)) Zz Zz Zz Zz Zz Zz Zz Zz Zz ft Zz Zz sb rfl ?_
    refine w_u [5] kr rfl ⟨?_, trivial⟩
    first | (refine zho ?_) | refine w_B _ (d_absInt _ (by omega) (by omega)) Zz Zz Zz Zz Zz Zz Zz Zz Zz ft Zz Zz sb rfl ?_
    refine zt6 ?_
    refine zt7 ?_
    refine w_u [8] kr rfl ⟨?_, trivial⟩
    first | (refine zho ?_) | refine w_B _ (d_absInt _ (by omega) (by omega)) Zz Zz Zz Zz Zz Zz Zz Zz Zz ft Zz Zz sb rfl ?_
    refine w_v kr ?_
    rotate_left
    first | (refine zho ?_) | refine w_B _ (d_absInt _ (by omega) (by omega)) Zz Zz Zz Zz Zz Zz Zz Zz Zz ft Zz Zz sb rfl ?_
    refine w_u [3] kr rfl ⟨?_, trivial⟩
    first | (refine zho ?_) | refine w_B _ (d_absInt _ (by omega) (by omega)) Zz Zz Zz Zz Zz Zz Zz Zz Zz ft Zz Zz sb rfl ?_
    refine zt6 ?_
    refine zt7 ?_
    refine w_u [8] kr rfl ⟨?_, trivial⟩
    first | (refine zho ?_) | refine w_B _ (d_absInt _ (by omega) (by omega)) Zz Zz Zz Zz Zz Zz Zz Zz Zz ft Zz Zz sb rfl ?_
    refine w_v kr ?_
    rotate_left
    all_goals ((repeat' (first | refine stx ?_ | (refine stq ?_ ?_ <;> (intro hc; ((try simp at hc) <;> try contradiction))) | fail)) <;> try (exfalso; omega))
    all_goals
     refine ⟨[], j + 1, hjb, w_4, ⟨w_1, ⟨rfl, rfl, rfl, rfl, own_ints ?_, trivial⟩, rfl⟩⟩
     rw [hg2, ← hse, colA]
     simp only [Int.toNat_natCast, Nat.zero_add]
   ·obtain rfl : j = b := by omega
    ((repeat' (first | refine stx ?_ | (refine stq ?_ ?_ <;> (intro hc; ((try simp at hc) <;> try contradiction))) | fail)) <;> try (exfalso; omega))
    exact ⟨[], i + 1, hit, w_4, ⟨w_1, ⟨rfl, rfl, rfl, rfl, own_ints genT_next, trivial⟩, rfl⟩⟩
  ·obtain rfl : i = t := by omega
   have hgl := genT_len (f := colA ys b) (c := b) (i := i) (j := 0)
   have har := fun cc => d_areNumbers (genT (colA ys b) b i 0) cc (by omega)
   rw [hgl] at har
   have e0 : colB ys b i = genT (colA ys b) b i 0 := rfl
   rw [e0]
   cases hA : (genT (colA ys b) b i 0).all numB
   ·rw [hA] at har
    rw [if_neg (by simp)]
    ((repeat' (first | refine stx ?_ | (first | refine w_z (har _) Zz Zz Zz Zz Zz Zz Zz Zz ft Zz Zz ?_ | refine w_A (har _) Zz Zz Zz Zz Zz Zz Zz Zz ft Zz Zz ?_) | (refine stq ?_ ?_ <;> (intro hc; ((try simp at hc) <;> try contradiction))) | fail)) <;> try (exfalso; omega))
    exact fin rfl w_3 [(2, 6)] (.tup [.one (.sl 2 1 0 0 0), .one (.bool false)]) [(2, .own 3 0 (.ints []))] 3 ⟨0, Nat.zero_le _, rfl, rfl, rfl⟩ rfl ⟨trivial, ⟨rfl, trivial⟩, rfl⟩ rfl
   ·rw [hA] at har
    rw [if_pos rfl]
    ((repeat' (first | refine stx ?_ | (first | refine w_z (har _) Zz Zz Zz Zz Zz Zz Zz Zz ft Zz Zz ?_ | refine w_A (har _) Zz Zz Zz Zz Zz Zz Zz Zz ft Zz Zz ?_) | (refine stq ?_ ?_ <;> (intro hc; ((try simp at hc) <;> try contradiction))) | fail)) <;> try (exfalso; omega))
    exact fin rfl w_3 [(2, 5)] (.tup [.one (.sl 2 1 0 (genT (colA ys b) b i 0).length b), .one (.bool true)]) [(2, .own 3 b (.ints (genT (colA ys b) b i 0)))] 3 ⟨b, by omega, rfl, rfl, rfl⟩ (by rw [hgl]; rfl) ⟨trivial, ⟨rfl, trivial⟩, rfl⟩ rfl
theorem fit_ok {n : Int} (h : numB n = true) : fitV n = n := if_pos h
theorem fit_no {n : Int} (h : numB n = false) : fitV n = badN := if_neg (by simp [h])
theorem fit_GB (n : Int) : GB (fitV n) := by
  cases h : numB n
  · rw [fit_no h]; exact .inr rfl
  · rw [fit_ok h]; exact .inl (numB_true.1 h)
theorem num_no {n : Int} (h : 400000000 < n) : numB n = false := by
  cases e : numB n
  · rfl
  · have := numB_true.1 e; omega
theorem num_gt {n : Int} (h0 : 0 ≤ n) (h : numB n = false) : 400000000 < n := by
  apply Classical.byContradiction
  intro hn
  rw [numB_true.2 (by omega)] at h; cases h
theorem colA_mark {ys : List Int} {c k i : Nat} (h : ys.all numB = true) : addV (fitV (colA ys c k i)) ((ys.getD (i * c + k) 0).natAbs : Int) = fitV (colA ys c k (i + 1)) := by
  have hb := colA_bd (c := c) (k := k) h i
  have hy := num_getD h (i * c + k)
  have hx : 0 ≤ ((ys.getD (i * c + k) 0).natAbs : Int) ∧ ((ys.getD (i * c + k) 0).natAbs : Int) ≤ 400000000 := by omega
  rw [colA]
  generalize colA ys c k i = s at *
  generalize ((ys.getD (i * c + k) 0).natAbs : Int) = x at *
  have hxb : x ≠ badN := by unfold badN; omega
  cases e : numB s
  · have := num_gt hb.1 e
    rw [fit_no e, fit_no (num_no (show 400000000 < s + x by omega)), addV, if_pos (.inl rfl)]
  · have hsb : s ≠ badN := by have := numB_true.1 e; unfold badN; omega
    rw [fit_ok e, addV, if_neg (by rintro (h | h); exact hsb h; exact hxb h)]
theorem hb_mark {ys : List Int} {c t : Nat} (h : ys.all numB = true) : badN ∈ genT (fun k i => fitV (colA ys c k i)) c t 0 ↔ (colB ys c t).all numB = false := by
  have e : ∀ k, fitV (colA ys c k t) = badN ↔ numB (colA ys c k t) = false := fun k => by
    constructor
    · intro hb
      cases e : numB (colA ys c k t)
      · rfl
      · rw [fit_ok e] at hb
        have := (colA_bd (c := c) (k := k) h t).1
        unfold badN at hb; omega
    · exact fit_no
  rw [← Bool.not_eq_true, List.all_eq_true]
  simp only [genT, colB, List.mem_map, List.mem_range, Nat.not_lt_zero, if_false]
  constructor
  · rintro ⟨k, hk, hf⟩ ha
    have := ha _ ⟨k, hk, rfl⟩
    rw [(e k).1 hf] at this; cases this
  · intro hn
    apply Classical.byContradiction
    intro hno
    refine hn fun x hx => ?_
    obtain ⟨k, hk, rfl⟩ := hx
    cases e2 : numB (colA ys c k t)
    · exact absurd ⟨k, hk, (e k).2 e2⟩ hno
    · rfl
theorem hb_same {ys : List Int} {c t : Nat} (h : (colB ys c t).all numB = true) : genT (fun k i => fitV (colA ys c k i)) c t 0 = colB ys c t := by
  rw [List.all_eq_true] at h
  simp only [genT, colB, List.mem_map, List.mem_range, Nat.not_lt_zero, if_false] at h ⊢
  refine List.map_congr_left fun k hk => ?_
  rw [List.mem_range] at hk
  exact fit_ok (h _ ⟨k, hk, rfl⟩)
set_option maxRecDepth 100000 in
set_option maxHeartbeats 4000000 in
theorem d_hboxS (r c : Int) (xs : List Int) (ca : Nat) (hl : xs.length ≤ 1099511627776) : Does Tryz.prog 32 [vM r c 1 xs.length ca] [(1, .ro (.ints xs))] 2 (SlO 3 (hboxB r c xs) 2) := by
 have hr := d_raysS r c xs ca hl
 rw [raysT_eq] at hr
 refine Does.intro TT Tryz.func32 rfl (by kernel_rfl) Zz Zz fun E hE => ?_
 unfold hboxB
 cases hB : raysB r c xs with
 | none =>
  rw [hB] at hr
  ((repeat' (first | refine stx ?_ | ((refine w_E (hr) Zz Zz Zz Zz Zz Zz Zz ft rfl ?_); rintro v Hout n1 ⟨rfl, rfl, rfl⟩) | (refine stq ?_ ?_ <;> (intro hc; ((try simp at hc) <;> try contradiction))) | fail)) <;> try (exfalso; omega))
  refine w_G hE (fun _ : Unit => True) (fun _ => 0) (fun _ => [(4, .one (.ptr 3 3 0 0)), (5, vB false), (6, vS 4 1 0 0 0), (7, vI 0)]) (fun _ => [(1, .ro (.ints xs)), (3, .own 26 1 (.lit zeroM)), (4, .own 3 0 (.ints []))]) 5 [] () trivial ⟨w_1, w_2, rfl⟩ ?_
  rintro ⟨⟩ -
  ((repeat' (first | refine stx ?_ | (refine stq ?_ ?_ <;> (intro hc; ((try simp at hc) <;> try contradiction))) | fail)) <;> try (exfalso; omega))
  exact fin rfl w_3 [(2, 5)] (.tup [.one (.sl 2 1 0 0 0), .one (.bool false)]) [(2, .own 3 0 (.ints []))] 3 ⟨0, Nat.zero_le _, rfl, rfl, rfl⟩ rfl ⟨trivial, ⟨rfl, trivial⟩, rfl⟩ rfl
 | some s =>
  rw [hB] at hr
  obtain ⟨b, rfl, hb1, hb, ht, hyl, hyn⟩ := raysB_dims hB
  obtain ⟨ys, t⟩ := s
  dsimp only at ht hyl hyn ⊢
  simp only [Int.toNat_natCast]
  have htb : t * b ≤ 24 * 3 := Nat.mul_le_mul ht hb
  have emb : (if (0 : Int) < (b : Int) then (b : Int) else 0).toNat = b := by rw [if_pos (by omega)]; omega
  ((repeat' (first | refine stx ?_ | ((refine w_E (hr) Zz Zz Zz Zz Zz Zz Zz ft rfl ?_); rintro v Hout n1 ⟨capy, hcapy, rfl, rfl, rfl⟩) | (refine stq ?_ ?_ <;> (intro hc; ((try simp at hc) <;> try contradiction))) | fail)) <;> try (exfalso; omega))
  dsimp only at hcapy
  rw [emb]
  refine w_G hE (fun i : Nat => i ≤ t) (fun i => t - i)
   (fun i => [(4, .one (.ptr 4 3 0 0)), (5, vB true), (6, vS 5 1 0 b b), (7, vI i)])
   (fun i => [(1, .ro (.ints xs)), (3, .own 3 capy (.ints ys)), (4, .own 26 1 (.lit [.int t, .int b, .sl 3 1 0 ys.length capy])), (5, .own 3 b (.ints (genT (fun k i => fitV (colA ys b k i)) b i 0)))]) 6 [] 0 (Nat.zero_le _) ⟨w_1, ⟨rfl, rfl, rfl, own_ints (genT_zero fun _ => rfl), trivial⟩, rfl⟩ ?_
  intro i hi
  have hib : i * b ≤ t * b := Nat.mul_le_mul_right _ hi
  by_cases hit : i < t
  ·have hin := row_in (c := b) hit
   have hkn : ¬ t ≤ i := by omega
   ((repeat' (first | refine stx ?_ | (refine stq ?_ ?_ <;> (intro hc; ((try simp at hc) <;> try contradiction))) | fail)) <;> try (exfalso; omega))
   refine w_G hE (fun j : Nat => j ≤ b) (fun j => b - j)
    (fun j => [(4, .one (.ptr 4 3 0 0)), (5, vB true), (6, vS 5 1 0 b b), (7, vI i), (8, vI j)])
    (fun j => [(1, .ro (.ints xs)), (3, .own 3 capy (.ints ys)), (4, .own 26 1 (.lit [.int t, .int b, .sl 3 1 0 ys.length capy])), (5, .own 3 b (.ints (genT (fun k i => fitV (colA ys b k i)) b i j)))]) 6 [] 0 (Nat.zero_le _) ⟨w_1, w_2, rfl⟩ ?_
   intro j hj
   have hgl := genT_len (f := fun k i => fitV (colA ys b k i)) (c := b) (i := i) (j := j)
   by_cases hjb : j < b
   ·have eib : (i : Int) * b = ((i * b : Nat) : Int) := by simp
    have hcell := d_cell12 t b i j ys ys.length capy rfl (by omega) (by omega) (by omega) (by omega)
    have ecl : ys.getD (0 + ((i : Int) * b + j).toNat) 0 = ys.getD (i * b + j) 0 := by rw [eib]; congr 1; omega
    have hy := num_getD hyn (i * b + j)
    have hg := genT_at (f := fun k i => fitV (colA ys b k i)) (i := i) hjb
    have hg2 : (genT (fun k i => fitV (colA ys b k i)) b i j).getD (0 + (j : Int).toNat) 0 = fitV (colA ys b j i) := by rw [show 0 + (j : Int).toNat = j by omega]; exact hg
    have hse := genT_set (f := fun k i => fitV (colA ys b k i)) (i := i) hjb
    have hmk := colA_mark (c := b) (k := j) (i := i) hyn
    rw [← ecl, ← hg2] at hmk
    have habs := d_l1Abs (ys.getD (0 + ((i : Int) * b + j).toNat) 0) (by omega) (by omega)
    have hadd := d_addV ((genT (fun k i => fitV (colA ys b k i)) b i j).getD (0 + (j : Int).toNat) 0) ((ys.getD (0 + ((i : Int) * b + j).toNat) 0).natAbs : Int) (by rw [hg2]; exact fit_GB _) (.inl (by omega))
    ((repeat' (first | refine stp ?_ | (refine stq ?_ ?_ <;> (intro hc; ((try simp at hc) <;> try contradiction))) | fail)) <;> try (exfalso; omega))
    refine awp_held TM [(3, _), (4, _)] sb rfl (fun ρs => ?_)
    refine zt0 ?_
    refine zt1 ?_
    refine zt2 ?_
    refine zt3 ?_
    refine zt4 ?_
    refine zt6 ?_
    refine zt7 ?_
    refine zt8 ?_
    refine w_u [5, 9] kr rfl ⟨?_, ?_, trivial⟩
    first | (refine zho ?_) | refine w_B _ (hcell) Zz Zz Zz Zz Zz Zz Zz Zz Zz ft Zz Zz sb rfl ?_ | refine w_B _ (habs) Zz Zz Zz Zz Zz Zz Zz Zz Zz ft Zz Zz sb rfl ?_ | refine w_B _ (hadd) Zz Zz Zz Zz Zz Zz Zz Zz Zz ft Zz Zz sb rfl ?_
    refine w_u [9] kr rfl ⟨?_, trivial⟩
    first | (refine zho ?_) | refine w_B _ (hcell) Zz Zz Zz Zz Zz Zz Zz Zz Zz ft Zz Zz sb rfl ?_ | refine w_B _ (habs) Zz Zz Zz Zz Zz Zz Zz Zz Zz ft Zz Zz sb rfl ?_ | refine w_B _ (hadd) Zz Zz Zz Zz Zz Zz Zz Zz Zz ft Zz Zz sb rfl ?_
    refine w_u [10] kr rfl ⟨?_, trivial⟩
    first | (refine zho ?_) | refine w_B _ (hcell) Zz Zz Zz Zz Zz Zz Zz Zz Zz ft Zz Zz sb rfl ?_ | refine w_B _ (habs) Zz Zz Zz Zz Zz Zz Zz Zz Zz ft Zz Zz sb rfl ?_ | refine w_B _ (hadd) Zz Zz Zz Zz Zz Zz Zz Zz Zz ft Zz Zz sb rfl ?_
    refine w_u [11] kr rfl ⟨?_, trivial⟩
    first | (refine zho ?_) | refine w_B _ (hcell) Zz Zz Zz Zz Zz Zz Zz Zz Zz ft Zz Zz sb rfl ?_ | refine w_B _ (habs) Zz Zz Zz Zz Zz Zz Zz Zz Zz ft Zz Zz sb rfl ?_ | refine w_B _ (hadd) Zz Zz Zz Zz Zz Zz Zz Zz Zz ft Zz Zz sb rfl ?_
    refine zt12 ?_
    refine w_u [13] kr rfl ⟨?_, trivial⟩
    first | (refine zho ?_) | refine w_B _ (hcell) Zz Zz Zz Zz Zz Zz Zz Zz Zz ft Zz Zz sb rfl ?_ | refine w_B _ (habs) Zz Zz Zz Zz Zz Zz Zz Zz Zz ft Zz Zz sb rfl ?_ | refine w_B _ (hadd) Zz Zz Zz Zz Zz Zz Zz Zz Zz ft Zz Zz sb rfl ?_
    refine w_v kr ?_
    rotate_left
    first | (refine zho ?_) | refine w_B _ (hcell) Zz Zz Zz Zz Zz Zz Zz Zz Zz ft Zz Zz sb rfl ?_ | refine w_B _ (habs) Zz Zz Zz Zz Zz Zz Zz Zz Zz ft Zz Zz sb rfl ?_ | refine w_B _ (hadd) Zz Zz Zz Zz Zz Zz Zz Zz Zz ft Zz Zz sb rfl ?_
    refine w_u [5, 10] kr rfl ⟨?_, ?_, trivial⟩
    first | (refine zho ?_) | refine w_B _ (hcell) Zz Zz Zz Zz Zz Zz Zz Zz Zz ft Zz Zz sb rfl ?_ | refine w_B _ (habs) Zz Zz Zz Zz Zz Zz Zz Zz Zz ft Zz Zz sb rfl ?_ | refine w_B _ (hadd) Zz Zz Zz Zz Zz Zz Zz Zz Zz ft Zz Zz sb rfl ?_
    refine w_u [10] kr rfl ⟨?_, trivial⟩
    first | (refine zho ?_) | refine w_B _ (hcell) Zz Zz Zz Zz Zz Zz Zz Zz Zz ft Zz Zz sb rfl ?_ | refine w_B _ (habs) Zz Zz Zz Zz Zz Zz Zz Zz Zz ft Zz Zz sb rfl ?_ | refine w_B _ (hadd) Zz Zz Zz Zz Zz Zz Zz Zz Zz ft Zz Zz sb rfl ?_
    refine w_u [11] kr rfl ⟨?_, trivial⟩
    first | (refine zho ?_) | refine w_B _ (hcell) Zz Zz Zz Zz Zz Zz Zz Zz Zz ft Zz Zz sb rfl ?_ | refine w_B _ (habs) Zz Zz Zz Zz Zz Zz Zz Zz Zz ft Zz Zz sb rfl ?_ | refine w_B _ (hadd) Zz Zz Zz Zz Zz Zz Zz Zz Zz ft Zz Zz sb rfl ?_
    refine zt12 ?_
    refine w_u [13] kr rfl ⟨?_, trivial⟩
    first | (refine zho ?_) | refine w_B _ (hcell) Zz Zz Zz Zz Zz Zz Zz Zz Zz ft Zz Zz sb rfl ?_ | refine w_B _ (habs) Zz Zz Zz Zz Zz Zz Zz Zz Zz ft Zz Zz sb rfl ?_ | refine w_B _ (hadd) Zz Zz Zz Zz Zz Zz Zz Zz Zz ft Zz Zz sb rfl ?_
    refine w_v kr ?_
    rotate_left
    first | (refine zho ?_) | refine w_B _ (hcell) Zz Zz Zz Zz Zz Zz Zz Zz Zz ft Zz Zz sb rfl ?_ | refine w_B _ (habs) Zz Zz Zz Zz Zz Zz Zz Zz Zz ft Zz Zz sb rfl ?_ | refine w_B _ (hadd) Zz Zz Zz Zz Zz Zz Zz Zz Zz ft Zz Zz sb rfl ?_
    refine w_u [5] kr rfl ⟨?_, trivial⟩
    first | (refine zho ?_) | refine w_B _ (hcell) Zz Zz Zz Zz Zz Zz Zz Zz Zz ft Zz Zz sb rfl ?_ | refine w_B _ (habs) Zz Zz Zz Zz Zz Zz Zz Zz Zz ft Zz Zz sb rfl ?_ | refine w_B _ (hadd) Zz Zz Zz Zz Zz Zz Zz Zz Zz ft Zz Zz sb rfl ?_
    refine w_u [11] kr rfl ⟨?_, trivial⟩
    first | (refine zho ?_) | refine w_B _ (hcell) Zz Zz Zz Zz Zz Zz Zz Zz Zz ft Zz Zz sb rfl ?_ | refine w_B _ (habs) Zz Zz Zz Zz Zz Zz Zz Zz Zz ft Zz Zz sb rfl ?_ | refine w_B _ (hadd) Zz Zz Zz Zz Zz Zz Zz Zz Zz ft Zz Zz sb rfl ?_
    refine zt12 ?_
    refine w_u [13] kr rfl ⟨?_, trivial⟩
    first | (refine zho ?_) | refine w_B _ (hcell) Zz Zz Zz Zz Zz Zz Zz Zz Zz ft Zz Zz sb rfl ?_ | refine w_B _ (habs) Zz Zz Zz Zz Zz Zz Zz Zz Zz ft Zz Zz sb rfl ?_ | refine w_B _ (hadd) Zz Zz Zz Zz Zz Zz Zz Zz Zz ft Zz Zz sb rfl ?_
    refine w_v kr ?_
    rotate_left
    all_goals ((repeat' (first | refine stx ?_ | (refine stq ?_ ?_ <;> (intro hc; ((try simp at hc) <;> try contradiction))) | fail)) <;> try (exfalso; omega))
    all_goals
     refine ⟨[], j + 1, hjb, w_4, ⟨w_1, ⟨rfl, rfl, rfl, own_ints ?_, trivial⟩, rfl⟩⟩
     rw [hmk, ← hse]
     simp only [Int.toNat_natCast, Nat.zero_add]
   ·obtain rfl : j = b := by omega
    ((repeat' (first | refine stx ?_ | (refine stq ?_ ?_ <;> (intro hc; ((try simp at hc) <;> try contradiction))) | fail)) <;> try (exfalso; omega))
    exact ⟨[], i + 1, hit, w_4, ⟨w_1, ⟨rfl, rfl, rfl, own_ints genT_next, trivial⟩, rfl⟩⟩
  ·obtain rfl : i = t := by omega
   have hgl := genT_len (f := fun k i => fitV (colA ys b k i)) (c := b) (i := i) (j := 0)
   have har := fun cc => d_bads (genT (fun k i => fitV (colA ys b k i)) b i 0) cc (by omega)
   rw [hgl] at har
   cases hA : (colB ys b i).all numB
   ·rw [decide_eq_true ((hb_mark hyn).2 hA)] at har
    rw [if_neg (by simp)]
    ((repeat' (first | refine stx ?_ | (first | refine w_z (har _) Zz Zz Zz Zz Zz Zz Zz Zz ft Zz Zz ?_ | refine w_A (har _) Zz Zz Zz Zz Zz Zz Zz Zz ft Zz Zz ?_) | (refine stq ?_ ?_ <;> (intro hc; ((try simp at hc) <;> try contradiction))) | fail)) <;> try (exfalso; omega))
    exact fin rfl w_3 [(2, 6)] (.tup [.one (.sl 2 1 0 0 0), .one (.bool false)]) [(2, .own 3 0 (.ints []))] 3 ⟨0, Nat.zero_le _, rfl, rfl, rfl⟩ rfl ⟨trivial, ⟨rfl, trivial⟩, rfl⟩ rfl
   ·rw [decide_eq_false (fun h => by rw [(hb_mark hyn).1 h] at hA; cases hA)] at har
    rw [if_pos rfl]
    have hsm := hb_same hA
    have hcl : (colB ys b i).length = b := genT_len
    ((repeat' (first | refine stx ?_ | (first | refine w_z (har _) Zz Zz Zz Zz Zz Zz Zz Zz ft Zz Zz ?_ | refine w_A (har _) Zz Zz Zz Zz Zz Zz Zz Zz ft Zz Zz ?_) | (refine stq ?_ ?_ <;> (intro hc; ((try simp at hc) <;> try contradiction))) | fail)) <;> try (exfalso; omega))
    exact fin rfl w_3 [(2, 5)] (.tup [.one (.sl 2 1 0 (colB ys b i).length b), .one (.bool true)]) [(2, .own 3 b (.ints (colB ys b i)))] 3 ⟨b, by omega, rfl, rfl, rfl⟩ (by rw [hcl]; rfl) ⟨trivial, ⟨own_ints hsm, trivial⟩, rfl⟩ rfl
end Go.Proofs.YtfkbjkmlpinoeaaGreat
namespace Go.Proofs.YtfkbjkmlpinoeaaGreat
def difL (a b : List Int) : List Int := (List.range a.length).map fun k => a.getD k 0 - b.getD k 0
def zeroL (a : List Int) : Prop := ∀ k, k < a.length → a.getD k 0 = 0
instance {a : List Int} : Decidable (zeroL a) := by unfold zeroL; infer_instance
theorem difL_len {a b : List Int} : (difL a b).length = a.length := by simp [difL]
theorem difL_at {a b : List Int} {k : Nat} (h : k < a.length) : (difL a b).getD k 0 = a.getD k 0 - b.getD k 0 := by simp [difL, h]
theorem difL_zero {a b : List Int} (hl : a.length = b.length) (h : zeroL (difL a b)) : a = b := by
  apply List.ext_getElem hl
  intro k h1 h2
  have := h k (by rw [difL_len]; exact h1)
  rw [difL_at h1] at this
  simp [h1, h2] at this
  omega
def cmpV (x y : List Int × Int) : Int := if x.2 ≠ y.2 then x.2 - y.2 else cmpL x.1 y.1
theorem cmpV_self (x : List Int × Int) : cmpV x x = 0 := by simp [cmpV, cmpL_self]
theorem cmpV_eq {x y : List Int × Int} (h : cmpV x y = 0) : x = y := by
  unfold cmpV at h
  split at h
  · omega
  · rename_i e
    exact Prod.ext (cmpL_eq h) (by omega)
theorem cmpV_neg (x y : List Int × Int) : cmpV y x < 0 ↔ 0 < cmpV x y := by
  unfold cmpV
  have := cmpL_neg x.1 y.1
  by_cases e : x.2 = y.2
  · rw [if_neg (by omega), if_neg (by omega)]; omega
  · rw [if_pos (Ne.symm e), if_pos e]; omega
theorem cmpV_trans {x y z : List Int × Int} (h1 : cmpV x y < 0) (h2 : cmpV y z < 0) : cmpV x z < 0 := by
  unfold cmpV at *
  split at h1
  · split at h2
    · rw [if_pos (by omega)]; omega
    · rw [if_pos (by omega)]; omega
  · split at h2
    · rw [if_pos (by omega)]; omega
    · rw [if_neg (by omega)]
      exact cmpL_trans h1 h2
theorem cmpV_lt {x y : List Int × Int} (h : x.2 < y.2) : cmpV x y < 0 := by
  unfold cmpV
  rw [if_pos (by omega)]; omega
def StrictV (l : List (List Int × Int)) : Prop := l.Pairwise fun x y => cmpV x y < 0
theorem strictV_ext : ∀ {l m : List (List Int × Int)}, StrictV l → StrictV m → (∀ x, x ∈ l ↔ x ∈ m) → l = m
  | [], [], _, _, _ => rfl
  | [], y :: m, _, _, h => by have := (h y).2 (by simp); cases this
  | x :: l, [], _, _, h => by have := (h x).1 (by simp); cases this
  | x :: l, y :: m, h1, h2, h => by
    have a1 := List.pairwise_cons.1 h1
    have a2 := List.pairwise_cons.1 h2
    have e : x = y := by
      rcases List.mem_cons.1 ((h x).1 (by simp)) with e | e
      · exact e
      · rcases List.mem_cons.1 ((h y).2 (by simp)) with f | f
        · exact f.symm
        · have g1 := a2.1 x e
          have g2 := a1.1 y f
          have := (cmpV_neg x y).1 g1
          omega
    subst e
    rw [strictV_ext a1.2 a2.2 fun z => ?_]
    constructor
    · intro hz
      rcases List.mem_cons.1 ((h z).1 (List.mem_cons_of_mem _ hz)) with e | e
      · subst e
        have := a1.1 z hz
        rw [cmpV_self] at this
        omega
      · exact e
    · intro hz
      rcases List.mem_cons.1 ((h z).2 (List.mem_cons_of_mem _ hz)) with e | e
      · subst e
        have := a2.1 z hz
        rw [cmpV_self] at this
        omega
      · exact e
def putV : List (List Int × Int) → List Int × Int → List (List Int × Int)
  | [], v => [v]
  | x :: l, v => if (x :: l).all (fun y => decide (0 < cmpV y v)) then v :: x :: l else x :: putV l v
theorem mem_putV : ∀ {l : List (List Int × Int)} {v x : List Int × Int}, x ∈ putV l v ↔ x = v ∨ x ∈ l
  | [], v, x => by simp [putV]
  | y :: l, v, x => by
    rw [putV]
    split
    · simp
    · rw [List.mem_cons, mem_putV, List.mem_cons]
      constructor
      · rintro (h | h | h)
        · exact .inr (.inl h)
        · exact .inl h
        · exact .inr (.inr h)
      · rintro (h | h | h)
        · exact .inr (.inl h)
        · exact .inl h
        · exact .inr (.inr h)
def redV (K : List Int → Bool) (F : List (List Int × Int)) (x : List Int) : Bool := F.any fun y => !decide (zeroL (difL x y.1)) && K (difL x y.1)
def greedV (K : List Int → Bool) (l : List (List Int × Int)) : List (List Int × Int) := l.foldl (fun out x => if out.any fun y => K (difL x.1 y.1) then out else out ++ [x]) []
structure ConeV (b : Nat) (K : List Int → Bool) (ht : List Int → Int) : Prop where
  add : ∀ u v w : List Int, u.length = b → v.length = b → w.length = b → (∀ k, k < b → w.getD k 0 = u.getD k 0 + v.getD k 0) → K u = true → K v = true → K w = true
  hadd : ∀ u v w : List Int, u.length = b → v.length = b → w.length = b → (∀ k, k < b → w.getD k 0 = u.getD k 0 + v.getD k 0) → ht w = ht u + ht v
  pos : ∀ u : List Int, u.length = b → K u = true → ¬ zeroL u → 0 < ht u
structure InV (b : Nat) (K : List Int → Bool) (ht : List Int → Int) (F : List (List Int × Int)) : Prop where
  len : ∀ y ∈ F, y.1.length = b
  hgt : ∀ y ∈ F, y.2 = ht y.1
  pos : ∀ y ∈ F, 0 < ht y.1
theorem redV_iff {K : List Int → Bool} {F : List (List Int × Int)} {x : List Int} : redV K F x = true ↔ ∃ y ∈ F, ¬ zeroL (difL x y.1) ∧ K (difL x y.1) = true := by
  simp only [redV, List.any_eq_true, Bool.and_eq_true, Bool.not_eq_true', decide_eq_false_iff_not]
theorem ConeV.low {b : Nat} {K : List Int → Bool} {ht : List Int → Int} (hC : ConeV b K ht) {F : List (List Int × Int)} (hF : InV b K ht F) : ∀ (N : Nat) (x : List Int) (y : List Int × Int), x.length = b → y ∈ F → ht y.1 ≤ (N : Int) → K (difL x y.1) = true → ∃ z ∈ F, redV K F z.1 = false ∧ K (difL x z.1) = true ∧ ht z.1 ≤ ht y.1 := fun N => by
  induction N with
  | zero =>
    intro x y hx hy hN hk
    have := hF.pos y hy
    omega
  | succ N ih =>
    intro x y hx hy hN hk
    cases hr : redV K F y.1
    · exact ⟨y, hy, hr, hk, Int.le_refl _⟩
    · obtain ⟨z, hz, h1, h2⟩ := redV_iff.1 hr
      have ly := hF.len y hy
      have lz := hF.len z hz
      have e1 := hC.hadd z.1 (difL y.1 z.1) y.1 lz (by rw [difL_len]; exact ly) ly fun k hk => by rw [difL_at (by omega)]; omega
      have e2 := hC.pos (difL y.1 z.1) (by rw [difL_len]; exact ly) h2 h1
      have e3 := hC.add (difL x y.1) (difL y.1 z.1) (difL x z.1) (by rw [difL_len]; exact hx) (by rw [difL_len]; exact ly) (by rw [difL_len]; exact hx) (fun k hk => by rw [difL_at (by omega), difL_at (by omega), difL_at (by omega)]; omega) hk h2
      obtain ⟨u, hu, h3, h4, h5⟩ := ih x z hx hz (by omega) e3
      exact ⟨u, hu, h3, h4, by omega⟩
theorem greed_eq {b : Nat} {K : List Int → Bool} {ht : List Int → Int} (hC : ConeV b K ht) {S : List (List Int × Int)} (hF : InV b K ht S) (hS : StrictV S) : greedV K S = S.filter fun x => !redV K S x.1 := by
  have key : ∀ (Q P : List (List Int × Int)), S = P ++ Q → Q.foldl (fun out x => if out.any fun y => K (difL x.1 y.1) then out else out ++ [x]) (P.filter fun x => !redV K S x.1) = S.filter fun x => !redV K S x.1 := fun Q => by
    induction Q with
    | nil => intro P h; rw [h, List.append_nil]; rfl
    | cons x Q ih =>
      intro P h
      have hx : x ∈ S := by rw [h]; simp
      have hxl := hF.len x hx
      rw [h] at hS
      have hs := List.pairwise_append.1 hS
      have hs2 := List.pairwise_cons.1 hs.2.1
      have hP : ∀ y ∈ P, y ∈ S := fun y hy => by rw [h]; simp [hy]
      have hany : ((P.filter fun x => !redV K S x.1).any fun y => K (difL x.1 y.1)) = redV K S x.1 := by
        rw [Bool.eq_iff_iff, redV_iff, List.any_eq_true]
        constructor
        · rintro ⟨y, hy, hk⟩
          have hyP := (List.mem_filter.1 hy).1
          refine ⟨y, hP y hyP, fun hz => ?_, hk⟩
          have e1 := difL_zero (by rw [hxl, hF.len y (hP y hyP)]) hz
          have e2 : x = y := Prod.ext e1 (by rw [hF.hgt x hx, hF.hgt y (hP y hyP), e1])
          have := hs.2.2 y hyP x (by simp)
          rw [e2, cmpV_self] at this
          omega
        · rintro ⟨y, hy, h1, h2⟩
          have ly := hF.len y hy
          have e1 := hC.hadd y.1 (difL x.1 y.1) x.1 ly (by rw [difL_len]; exact hxl) hxl fun k hk => by rw [difL_at (by omega)]; omega
          have e2 := hC.pos (difL x.1 y.1) (by rw [difL_len]; exact hxl) h2 h1
          obtain ⟨z, hz, h3, h4, h5⟩ := hC.low hF (ht y.1).toNat x.1 y hxl hy (by omega) h2
          have hlt : cmpV z x < 0 := cmpV_lt (by rw [hF.hgt z hz, hF.hgt x hx]; omega)
          refine ⟨z, List.mem_filter.2 ⟨?_, by simp [h3]⟩, h4⟩
          rw [h] at hz
          rcases List.mem_append.1 hz with hz | hz
          · exact hz
          · rcases List.mem_cons.1 hz with e | hz
            · rw [e, cmpV_self] at hlt; omega
            · have g1 := hs2.1 z hz
              have := (cmpV_neg x z).1 hlt
              omega
      rw [List.foldl_cons, hany]
      have hfl : (P ++ [x]).filter (fun x => !redV K S x.1) = P.filter (fun x => !redV K S x.1) ++ if redV K S x.1 then [] else [x] := by
        rw [List.filter_append, List.filter_cons, List.filter_nil]
        congr 1
        cases redV K S x.1 <;> rfl
      have := ih (P ++ [x]) (by rw [h, List.append_assoc]; rfl)
      rw [hfl] at this
      cases hr : redV K S x.1
      · rw [hr] at this; simpa using this
      · rw [hr] at this; simpa using this
  have := key S [] rfl
  simpa [greedV] using this
end Go.Proofs.YtfkbjkmlpinoeaaGreat
namespace Go.Proofs.YtfkbjkmlpinoeaaGreat
open Go.RowKit
def inAny (xs : List Int) (a b : Nat) (v : List Int) : Bool := decide (∀ i, i < a → 0 ≤ dotR xs b v i)
def htTo (xs : List Int) (b : Nat) (v : List Int) : Nat → Int
  | 0 => 0
  | i + 1 => htTo xs b v i + dotR xs b v i
theorem dotR_bd {xs v : List Int} {b : Nat} (hx : xs.all numB = true) (hv : v.all numB = true) (hb : b ≤ 3) (i : Nat) : -480000000000000000 ≤ dotR xs b v i ∧ dotR xs b v i ≤ 480000000000000000 := by
  have := prodTo_bd (o := i * b) hx hv b
  rw [dotR]; omega
theorem htTo_bd {xs v : List Int} {b : Nat} (hx : xs.all numB = true) (hv : v.all numB = true) (hb : b ≤ 3) : ∀ i : Nat, -(480000000000000000 * (i : Int)) ≤ htTo xs b v i ∧ htTo xs b v i ≤ 480000000000000000 * (i : Int)
  | 0 => by simp [htTo]
  | i + 1 => by
    have ih := htTo_bd hx hv hb i
    have := dotR_bd hx hv hb i
    rw [htTo]; omega
set_option maxHeartbeats 1000000 in
theorem d_inAny (a b n ca m cv : Nat) (xs v : List Int) (hn : n = xs.length) (hm : m = v.length) (hx : xs.length = a * b) (hv : v.length = b) (ha : a ≤ 8) (hb1 : 1 ≤ b) (hb : b ≤ 3) (hxn : xs.all numB = true) (hvn : v.all numB = true) (hca : xs.length ≤ ca) :
    Does Tryz.prog 72 [vM a b 1 n ca, vS 2 1 0 m cv] [(1, .ro (.ints xs)), (2, .ro (.ints v))] 3 (Ret (vB (inAny xs a b v)) 3) := by
  subst hn hm
  have h24 : a * b ≤ 24 := Nat.mul_le_mul ha hb
  refine Does.intro TT Tryz.func72 rfl (by kernel_rfl) Zz Zz fun E hE => ?_
  ((repeat' (first | refine stx ?_ | (refine stq ?_ ?_ <;> (intro hc; ((try simp at hc) <;> try contradiction))) | fail)) <;> try (exfalso; omega))
  refine w_G hE (fun i : Nat => i ≤ a ∧ ∀ p, p < i → 0 ≤ dotR xs b v p) (fun i => a - i)
    (fun i => [(1, vS 2 1 0 v.length cv), (2, .one (.ptr 3 3 0 0)), (5, vI i)]) (fun _ => [(1, .ro (.ints xs)), (2, .ro (.ints v)), (3, .own 26 1 (.lit [.int a, .int b, .sl 1 1 0 xs.length ca]))]) 4 [] 0 ⟨Nat.zero_le _, fun p hp => by omega⟩ ⟨w_1, w_2, rfl⟩ ?_
  rintro i ⟨hi, hall⟩
  by_cases hia : i < a
  · have hkn : ¬ a ≤ i := by omega
    have hin := row_in (c := b) hia
    have hdt := fun cc cb => d_dot xs v (i * b) b cc v.length cb rfl hv.symm (by omega) (by omega) (by omega) hxn hvn
    have hdr : prodTo xs (i * b) v b = dotR xs b v i := rfl
    rw [hdr] at hdt
    by_cases hneg : dotR xs b v i < 0
    · ((repeat' (first | refine stx ?_ | ((refine w_E (d_rowAt a b i xs.length ca xs rfl hx hca (by omega) (by omega) hia) Zz Zz Zz Zz Zz Zz Zz ft rfl ?_); rintro w Hout n1 ⟨cp, rfl, rfl, rfl⟩) | (first | refine w_z (hdt _ _) Zz Zz Zz Zz Zz Zz Zz Zz ft Zz Zz ?_ | refine w_A (hdt _ _) Zz Zz Zz Zz Zz Zz Zz Zz ft Zz Zz ?_) | (refine stq ?_ ?_ <;> (intro hc; ((try simp at hc) <;> try contradiction))) | fail)) <;> try (exfalso; omega))
      refine fin_ret rfl w_3 (congrArg vB (by symm; apply decide_eq_false; intro h; have := h i hia; omega)) rfl
    · ((repeat' (first | refine stx ?_ | ((refine w_E (d_rowAt a b i xs.length ca xs rfl hx hca (by omega) (by omega) hia) Zz Zz Zz Zz Zz Zz Zz ft rfl ?_); rintro w Hout n1 ⟨cp, rfl, rfl, rfl⟩) | (first | refine w_z (hdt _ _) Zz Zz Zz Zz Zz Zz Zz Zz ft Zz Zz ?_ | refine w_A (hdt _ _) Zz Zz Zz Zz Zz Zz Zz Zz ft Zz Zz ?_) | (refine stq ?_ ?_ <;> (intro hc; ((try simp at hc) <;> try contradiction))) | fail)) <;> try (exfalso; omega))
      exact ⟨[], i + 1, ⟨hia, all_next hall (by omega)⟩, w_4, ⟨w_1, w_2, rfl⟩⟩
  · obtain rfl : i = a := by omega
    ((repeat' (first | refine stx ?_ | (refine stq ?_ ?_ <;> (intro hc; ((try simp at hc) <;> try contradiction))) | fail)) <;> try (exfalso; omega))
    refine fin_ret rfl w_3 (congrArg vB (by symm; exact decide_eq_true hall)) rfl
set_option maxHeartbeats 1000000 in
theorem d_height (a b n ca m cv : Nat) (xs v : List Int) (hn : n = xs.length) (hm : m = v.length) (hx : xs.length = a * b) (hv : v.length = b) (ha : a ≤ 8) (hb1 : 1 ≤ b) (hb : b ≤ 3) (hxn : xs.all numB = true) (hvn : v.all numB = true) (hca : xs.length ≤ ca) :
    Does Tryz.prog 73 [vM a b 1 n ca, vS 2 1 0 m cv] [(1, .ro (.ints xs)), (2, .ro (.ints v))] 3 (Ret (vI (htTo xs b v a)) 3) := by
  subst hn hm
  have h24 : a * b ≤ 24 := Nat.mul_le_mul ha hb
  refine Does.intro TT Tryz.func73 rfl (by kernel_rfl) Zz Zz fun E hE => ?_
  ((repeat' (first | refine stx ?_ | (refine stq ?_ ?_ <;> (intro hc; ((try simp at hc) <;> try contradiction))) | fail)) <;> try (exfalso; omega))
  refine w_G hE (fun i : Nat => i ≤ a) (fun i => a - i)
    (fun i => [(1, vS 2 1 0 v.length cv), (2, .one (.ptr 3 3 0 0)), (5, vI (htTo xs b v i)), (6, vI i)]) (fun _ => [(1, .ro (.ints xs)), (2, .ro (.ints v)), (3, .own 26 1 (.lit [.int a, .int b, .sl 1 1 0 xs.length ca]))]) 4 [] 0 (Nat.zero_le _) ⟨w_1, w_2, rfl⟩ ?_
  intro i hi
  have hbd := htTo_bd hxn hvn hb i
  have hbe := dotR_bd hxn hvn hb i
  by_cases hia : i < a
  · have hkn : ¬ a ≤ i := by omega
    have hin := row_in (c := b) hia
    have hdt := fun cc cb => d_dot xs v (i * b) b cc v.length cb rfl hv.symm (by omega) (by omega) (by omega) hxn hvn
    have hdr : prodTo xs (i * b) v b = dotR xs b v i := rfl
    rw [hdr] at hdt
    ((repeat' (first | refine stx ?_ | ((refine w_E (d_rowAt a b i xs.length ca xs rfl hx hca (by omega) (by omega) hia) Zz Zz Zz Zz Zz Zz Zz ft rfl ?_); rintro w Hout n1 ⟨cp, rfl, rfl, rfl⟩) | (first | refine w_z (hdt _ _) Zz Zz Zz Zz Zz Zz Zz Zz ft Zz Zz ?_ | refine w_A (hdt _ _) Zz Zz Zz Zz Zz Zz Zz Zz ft Zz Zz ?_) | (refine stq ?_ ?_ <;> (intro hc; ((try simp at hc) <;> try contradiction))) | fail)) <;> try (exfalso; omega))
    all_goals exact ⟨[], i + 1, hia, w_4, ⟨w_1, w_2, rfl⟩⟩
  · obtain rfl : i = a := by omega
    ((repeat' (first | refine stx ?_ | (refine stq ?_ ?_ <;> (intro hc; ((try simp at hc) <;> try contradiction))) | fail)) <;> try (exfalso; omega))
    refine fin_ret rfl w_3 (rfl) rfl
theorem d_diff (u v : List Int) (n m c1 c2 : Nat) (hn : n = u.length) (hm : m = v.length) (hl : u.length = v.length) (hu : u.all numB = true) (hv : v.all numB = true) (h24 : u.length ≤ 1000000) :
    Does Tryz.prog 76 [vS 1 1 0 n c1, vS 2 1 0 m c2] [(1, .ro (.ints u)), (2, .ro (.ints v))] 3 (MadeI (difL u v) 3) := by
  subst hn hm
  refine Does.intro TT Tryz.func76 rfl (by kernel_rfl) Zz Zz fun E hE => ?_
  ((repeat' (first | refine stx ?_ | (refine stq ?_ ?_ <;> (intro hc; ((try simp at hc) <;> try contradiction))) | fail)) <;> try (exfalso; omega))
  refine w_G hE (fun x : Nat × Nat => x.1 ≤ u.length ∧ x.1 ≤ x.2) (fun x => u.length - x.1)
    (fun x => [(0, vS 1 1 0 u.length c1), (1, vS 2 1 0 v.length c2), (5, vS 3 1 0 x.1 x.2), (9, vI u.length), (10, vI x.1)]) (fun x => [(1, .ro (.ints u)), (2, .ro (.ints v)), (3, .own 3 x.2 (.ints ((difL u v).take x.1)))]) 4 [] (0, 0) ⟨Nat.zero_le _, Nat.zero_le _⟩ ⟨w_1, w_2, rfl⟩ ?_
  rintro ⟨k, cap⟩ ⟨h1, h2⟩
  dsimp only at h1 h2
  have e1 := num_getD hu (0 + (k : Int).toNat)
  have e2 := num_getD hv (0 + (k : Int).toNat)
  have e3 := num_getD hu k
  have e4 := num_getD hv k
  by_cases hk : k < u.length
  · have hk2 : k < v.length := by omega
    have en : (difL u v).take (k + 1) = (difL u v).take k ++ [u.getD (0 + (k : Int).toNat) 0 - v.getD (0 + (k : Int).toNat) 0] := by
      have hkd : k < (difL u v).length := by rw [difL_len]; exact hk
      rw [List.take_succ_eq_append_getElem hkd, ← getD_in (d := 0) hkd, difL_at hk, show 0 + (k : Int).toNat = k by omega]
    have ek : ((difL u v).take k).length = k := by rw [List.length_take, difL_len]; omega
    ((repeat' (first | refine stx ?_ | (refine stq ?_ ?_ <;> (intro hc; ((try simp at hc) <;> try contradiction))) | fail)) <;> try (exfalso; omega))
    have el : (difL u v).length = u.length := by rw [difL_len]
    refine awp_held TM [(1, _), (2, _)] sb rfl (fun ρs => ?_)
    refine zt0 ?_
    refine zt1 ?_
    refine zt2 ?_
    refine zt3 ?_
    refine zt4 ?_
    refine zt5 ?_
    refine zt6 ?_
    refine zt7 ?_
    refine zt8 ?_
    refine zt9 ?_
    refine w_u [10] kr rfl ⟨?_, trivial⟩
    first | (refine zho ?_) | (refine w_y TT _ Zz Zz Zz Zz Zz Zz sd sb Zz Zz ?_; intro cap hcap)
    refine w_u [11] kr rfl ⟨?_, trivial⟩
    first | (refine zho ?_) | (refine w_y TT _ Zz Zz Zz Zz Zz Zz sd sb Zz Zz ?_; intro cap hcap)
    refine zt12 ?_
    refine w_v kr ?_
    rotate_left
    all_goals ((repeat' (first | refine stx ?_ | (refine stq ?_ ?_ <;> (intro hc; ((try simp at hc) <;> try contradiction))) | fail)) <;> try (exfalso; omega))
    all_goals refine ⟨[(3, 5)], (k + 1, cap), ⟨hk, by dsimp only at hcap ⊢; omega⟩, w_4, ⟨w_1, ⟨rfl, rfl, own_ints en.symm, trivial⟩, rfl⟩⟩
  · obtain rfl : k = u.length := by omega
    have ed : (difL u v).take u.length = difL u v := List.take_of_length_le (by rw [difL_len]; exact Nat.le_refl _)
    ((repeat' (first | refine stx ?_ | (refine stq ?_ ?_ <;> (intro hc; ((try simp at hc) <;> try contradiction))) | fail)) <;> try (exfalso; omega))
    exact fin rfl w_3 [] (vS 3 1 0 (difL u v).length cap) [(3, .own 3 cap (.ints (difL u v)))] 4 ⟨cap, by rw [difL_len]; exact h2, rfl, rfl, rfl⟩ (by rw [difL_len]; rfl) ⟨trivial, ⟨own_ints ed, trivial⟩, rfl⟩ rfl
end Go.Proofs.YtfkbjkmlpinoeaaGreat
