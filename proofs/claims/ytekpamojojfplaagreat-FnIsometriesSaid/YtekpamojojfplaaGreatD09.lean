/-
  TEXTS OF THE PROOF, put together: bSwap, pEch2, bIdent.
-/
import Derived.Test.YtekpamojojfplaaGreatD08
set_option linter.unusedVariables false
set_option linter.unusedSimpArgs false
namespace Go.Proofs.YtekpamojojfplaaGreat
open Go.RowKit
def swapTo (xs : List Int) (o1 o2 : Nat) : Nat → List Int
  | 0 => xs
  | k + 1 => ((swapTo xs o1 o2 k).set (o1 + k) (xs.getD (o2 + k) 0)).set (o2 + k) (xs.getD (o1 + k) 0)
theorem swapTo_len {xs : List Int} {o1 o2 : Nat} : ∀ {k : Nat}, (swapTo xs o1 o2 k).length = xs.length
  | 0 => rfl
  | k + 1 => by simp [swapTo, swapTo_len]
theorem swapTo_at {xs : List Int} {o1 o2 p : Nat} : ∀ {k : Nat}, (p < o1 ∨ o1 + k ≤ p) → (p < o2 ∨ o2 + k ≤ p) → (swapTo xs o1 o2 k).getD p 0 = xs.getD p 0
  | 0, _, _ => rfl
  | k + 1, h1, h2 => by
    have := swapTo_at (xs := xs) (o1 := o1) (o2 := o2) (p := p) (k := k) (by omega) (by omega)
    rw [swapTo, List.getD_eq_getElem?_getD, List.getElem?_set_ne (by omega), List.getElem?_set_ne (by omega), ← List.getD_eq_getElem?_getD, this]
theorem mul_nat (i c : Nat) : ((i : Int) * c).toNat = i * c := by
  have e : (i : Int) * c = ((i * c : Nat) : Int) := by simp
  rw [e]; exact Int.toNat_natCast _
def RowS (off n c : Nat) (v : AV) (Hout : List (Nat × Blk)) (n1 : Nat) : Prop := v = vS 1 1 off n c ∧ Hout = [] ∧ n1 = 2
theorem d_rowAt (r c i n ca : Nat) (xs : List Int) (hn : n = xs.length) (hx : xs.length = r * c) (hca : xs.length ≤ ca) (hr : r ≤ 24) (hc24 : c ≤ 24) (hi : i < r) : Does Tryz.prog 135 [vM r c 1 n ca, vI i] [(1, .ro (.ints xs))] 2 (fun v Hout n1 => ∃ cp, RowS (i * c) c cp v Hout n1) := by
 have h1 : i * c + c ≤ r * c := by
  have := Nat.mul_le_mul_right c (show i + 1 ≤ r by omega)
  rw [Nat.add_mul, Nat.one_mul] at this; exact this
 have h2 : i * c ≤ 576 := by have := Nat.mul_le_mul (show i ≤ 24 by omega) hc24; omega
 have e1 : (i : Int) * c = ((i * c : Nat) : Int) := by simp
 have e2 : ((i : Int) + 1) * c = ((i * c + c : Nat) : Int) := by rw [Int.add_mul, e1]; simp
 refine Does.intro TT Tryz.func135 rfl (by kernel_rfl) Zz Zz fun E hE => ?_
 ((repeat' (first | refine stx ?_ | (refine stq ?_ ?_ <;> (intro hc; ((try simp at hc) <;> try contradiction))) | fail)) <;> try (exfalso; omega))
 have hoff : slOff 0 ((i : Int) * c).toNat ca = i * c := by
  rw [mul_nat]
  unfold slOff
  split
  ·rename_i h0
   have : i * c = 0 ∨ 0 < c := by
    rcases Nat.eq_zero_or_pos c with q | q
    ·left; rw [q]; rfl
    ·exact .inr q
   omega
  ·omega
 have hlen : (((i : Int) + 1) * c).toNat - ((i : Int) * c).toNat = c := by rw [e2, e1]; omega
 refine fin rfl w_3 [] (vS 1 1 (i * c) c (ca - ((i : Int) * c).toNat)) [] 2 ⟨_, rfl, rfl, rfl⟩ ?_ ⟨trivial, trivial, rfl⟩ rfl
 show AV.one (.sl 1 1 (slOff 0 ((i : Int) * c).toNat ca) ((((i : Int) + 1) * c).toNat - ((i : Int) * c).toNat) (ca - ((i : Int) * c).toNat)) = _
 rw [hoff, hlen]; rfl
theorem row_apart {p t c : Nat} (h : p ≠ t) : p * c + c ≤ t * c ∨ t * c + c ≤ p * c := by
  rcases Nat.lt_or_ge p t with q | q
  · left
    have := Nat.mul_le_mul_right c (show p + 1 ≤ t by omega)
    rw [Nat.add_mul, Nat.one_mul] at this; exact this
  · right
    have := Nat.mul_le_mul_right c (show t + 1 ≤ p by omega)
    rw [Nat.add_mul, Nat.one_mul] at this; exact this
theorem row_in {p r c : Nat} (h : p < r) : p * c + c ≤ r * c := by
  have := Nat.mul_le_mul_right c (show p + 1 ≤ r by omega)
  rw [Nat.add_mul, Nat.one_mul] at this; exact this
def DidM (t : TypeId) (cap : Nat) (xs : List Int) (b : Bool) (v : AV) (Hout : List (Nat × Blk)) (n : Nat) : Prop := v = vB b ∧ Hout = [(1, .own t cap (.ints xs))] ∧ n = 2
set_option maxHeartbeats 2000000 in
theorem d_swapI (r c p t n ca cap : Nat) (xs : List Int) (hn : n = xs.length) (hx : xs.length = r * c) (hca : xs.length ≤ ca) (hr : r ≤ 24) (hc24 : c ≤ 24) (hp : p < r) (ht : t < r) (hne : p ≠ t) :
    Does Tryz.prog 191 [vM r c 1 n ca, .agg [.int 0, .int p, .int t, .int 0]] [(1, .own 3 cap (.ints xs))] 2 (DidM 3 cap (swapTo xs (p * c) (t * c) c) true) := by
  have ha := row_apart (c := c) hne
  have h1 := row_in (c := c) hp
  have h2 := row_in (c := c) ht
  have hrc : r * c ≤ 576 := by have := Nat.mul_le_mul hr hc24; omega
  refine Does.intro TT Tryz.func191 rfl (by kernel_rfl) Zz Zz fun E hE => ?_
  ((repeat' (first | refine stx ?_ | ((refine zqe (d_rowAt r c p n ca xs hn hx hca hr hc24 hp) ?_); rintro v Hout n1 ⟨cp1, rfl, rfl, rfl⟩) | ((refine zqe (d_rowAt r c t n ca xs hn hx hca hr hc24 ht) ?_); rintro v Hout n1 ⟨cp2, rfl, rfl, rfl⟩) | (refine stq ?_ ?_ <;> (intro hc; ((try simp at hc) <;> try contradiction))) | fail)) <;> try (exfalso; omega))
  refine w_G hE (fun k : Nat => k ≤ c) (fun k => c - k)
    (fun k => [(3, .one (.ptr 3 4 0 0)), (5, vS 1 1 (p * c) c cp1), (6, vS 1 1 (t * c) c cp2), (18, vI c), (19, vI k)]) (fun k => [(1, .own 3 cap (.ints (swapTo xs (p * c) (t * c) k))), (3, .own 74 1 (.lit [.int 0, .int p, .int t, .int 0]))]) 4 [] 0 (Nat.zero_le _) ⟨w_1, w_2, rfl⟩ ?_
  intro k hk
  have hlen : (swapTo xs (p * c) (t * c) k).length = xs.length := swapTo_len
  by_cases hkc : k < c
  · have e1 := off_nat (off := p * c) (k := k)
    have e2 := off_nat (off := t * c) (k := k)
    have a1 := swapTo_at (xs := xs) (o1 := p * c) (o2 := t * c) (p := p * c + k) (k := k) (by omega) (by omega)
    have a2 := swapTo_at (xs := xs) (o1 := p * c) (o2 := t * c) (p := t * c + k) (k := k) (by omega) (by omega)
    ((repeat' (first | refine stp ?_ | (refine stq ?_ ?_ <;> (intro hc; ((try simp at hc) <;> try contradiction))) | fail)) <;> try (exfalso; omega))
    refine awp_held TM [(3, _)] sb rfl (fun ρs => ?_)
    refine zt0 ?_
    refine zt1 ?_
    refine zt2 ?_
    refine zt3 ?_
    refine zt4 ?_
    refine zt5 ?_
    refine zt6 ?_
    refine zt8 ?_
    refine zt9 ?_
    refine zt10 ?_
    refine w_u [7, 11] kr rfl ⟨?_, ?_, trivial⟩
    first | (refine zho ?_)
    refine w_u [11] kr rfl ⟨?_, trivial⟩
    first | (refine zho ?_)
    refine zt12 ?_
    refine w_u [13] kr rfl ⟨?_, trivial⟩
    first | (refine zho ?_)
    refine zt14 ?_
    refine w_u [15] kr rfl ⟨?_, trivial⟩
    first | (refine zho ?_)
    refine w_v kr ?_
    rotate_left
    first | (refine zho ?_)
    refine w_u [7] kr rfl ⟨?_, trivial⟩
    first | (refine zho ?_)
    refine zt12 ?_
    refine w_u [13] kr rfl ⟨?_, trivial⟩
    first | (refine zho ?_)
    refine zt14 ?_
    refine w_u [15] kr rfl ⟨?_, trivial⟩
    first | (refine zho ?_)
    refine w_v kr ?_
    rotate_left
    all_goals ((repeat' (first | refine stx ?_ | (refine stq ?_ ?_ <;> (intro hc; ((try simp at hc) <;> try contradiction))) | fail)) <;> try (exfalso; omega))
    all_goals
      refine ⟨[], k + 1, hkc, w_4, ⟨w_1, ⟨own_ints ?_, rfl, trivial⟩, rfl⟩⟩
      rw [e1, e2, a1, a2]; rfl
  · obtain rfl : k = c := by omega
    ((repeat' (first | refine stx ?_ | (refine stq ?_ ?_ <;> (intro hc; ((try simp at hc) <;> try contradiction))) | fail)) <;> try (exfalso; omega))
    exact fin rfl w_3 [] (vB true) [(1, .own 3 cap (.ints (swapTo xs (p * k) (t * k) k)))] 2 ⟨rfl, rfl, rfl⟩ rfl ⟨trivial, ⟨rfl, trivial⟩, rfl⟩ rfl
theorem cell_nat {p k c : Nat} : 0 + ((p : Int) * c + k).toNat = p * c + k := by
  have e : ((p : Int) * c + k) = ((p * c + k : Nat) : Int) := by simp
  rw [e]; omega
set_option maxHeartbeats 2000000 in
theorem d_swapS (r c p t n ca cap : Nat) (xs : List Int) (hn : n = xs.length) (hx : xs.length = r * c) (hr : r ≤ 24) (hc24 : c ≤ 24) (hp : p < r) (ht : t < r) (hne : p ≠ t) :
    Does Tryz.prog 109 [vM r c 1 n ca, .agg [.int 0, .int p, .int t, .int 0]] [(1, .own 3 cap (.ints xs))] 2 (SetM 3 cap (swapTo xs (p * c) (t * c) c)) := by
  have ha := row_apart (c := c) hne
  have h1 := row_in (c := c) hp
  have h2 := row_in (c := c) ht
  refine Does.intro TT Tryz.func109 rfl (by kernel_rfl) Zz Zz fun E hE => ?_
  ((repeat' (first | refine stx ?_ | (refine stq ?_ ?_ <;> (intro hc; ((try simp at hc) <;> try contradiction))) | fail)) <;> try (exfalso; omega))
  refine w_G hE (fun k : Nat => k ≤ c) (fun k => c - k)
    (fun k => [(2, .one (.ptr 2 3 0 0)), (3, .one (.ptr 3 4 0 0)), (4, vI k)]) (fun k => [(1, .own 3 cap (.ints (swapTo xs (p * c) (t * c) k))), (2, .own 26 1 (.lit [.int r, .int c, .sl 1 1 0 n ca])), (3, .own 74 1 (.lit [.int 0, .int p, .int t, .int 0]))]) 4 [] 0 (Nat.zero_le _) ⟨w_1, w_2, rfl⟩ ?_
  intro k hk
  have hlen : (swapTo xs (p * c) (t * c) k).length = xs.length := swapTo_len
  by_cases hkc : k < c
  · have b1 := cell_facts hp hkc hr hc24
    have b2 := cell_facts ht hkc hr hc24
    have e1 := cell_nat (p := p) (k := k) (c := c)
    have e2 := cell_nat (p := t) (k := k) (c := c)
    have a1 := swapTo_at (xs := xs) (o1 := p * c) (o2 := t * c) (p := p * c + k) (k := k) (by omega) (by omega)
    have a2 := swapTo_at (xs := xs) (o1 := p * c) (o2 := t * c) (p := t * c + k) (k := k) (by omega) (by omega)
    ((repeat' (first | refine stx ?_ | (refine stq ?_ ?_ <;> (intro hc; ((try simp at hc) <;> try contradiction))) | fail)) <;> try (exfalso; omega))
    refine ⟨[], k + 1, hkc, w_4, ⟨w_1, ⟨own_ints ?_, rfl, rfl, trivial⟩, rfl⟩⟩
    rw [e1, e2, a1, a2]; rfl
  · obtain rfl : k = c := by omega
    ((repeat' (first | refine stx ?_ | (refine stq ?_ ?_ <;> (intro hc; ((try simp at hc) <;> try contradiction))) | fail)) <;> try (exfalso; omega))
    exact fin_n rfl w_3 [] (.tup []) [(1, .own 3 cap (.ints (swapTo xs (p * k) (t * k) k)))] 2 ⟨rfl, rfl, rfl⟩ rfl ⟨trivial, ⟨rfl, trivial⟩, rfl⟩ rfl
def CopyM (r c : Int) (xs : List Int) (k : Nat) (t : TypeId) (v : AV) (Hout : List (Nat × Blk)) (n1 : Nat) : Prop := ∃ cap, xs.length ≤ cap ∧ v = .agg [.int r, .int c, .sl k 1 0 xs.length cap] ∧ Hout = [(k, .own t cap (.ints xs))] ∧ n1 = k + 1
theorem CopyM.out {r c : Int} {xs : List Int} {k : Nat} {t : TypeId} : ∀ v Hout n1, CopyM r c xs k t v Hout n1 → ∃ b, Hout = [(k, b)] ∧ n1 = k + 1 ∧ b.keys = [] := fun _ _ _ ⟨_, _, _, h2, h3⟩ => ⟨_, h2, h3, by simp [Blk.keys, Elts.keys, Elts.all, ints_keys]⟩
theorem d_copyI (r c : Int) (xs : List Int) (ca : Nat) (hl : xs.length ≤ 1099511627776) : Does Tryz.prog 189 [vM r c 1 xs.length ca] [(1, .ro (.ints xs))] 2 (CopyM r c xs 2 3) := by
 refine Does.intro TT Tryz.func189 rfl (by kernel_rfl) Zz Zz fun E hE => ?_
 ((repeat' (first | refine stx ?_ | (refine zqx ?_; intro cap hcap) | (refine stq ?_ ?_ <;> (intro hc; ((try simp at hc) <;> try contradiction))) | fail)) <;> try (exfalso; omega))
 rw [Nat.zero_add] at hcap
 rw [show 0 + xs.length = xs.length from Nat.zero_add _]
 exact fin rfl w_3 [(2, 5)] (.agg [.int r, .int c, .sl 2 1 0 xs.length cap]) [(2, .own 3 cap (.ints xs))] 3 ⟨cap, hcap, rfl, rfl, rfl⟩ rfl ⟨trivial, ⟨own_ints (by simp), trivial⟩, rfl⟩ rfl
theorem d_copyS (r c : Int) (xs : List Int) (ca : Nat) (hl : xs.length ≤ 1099511627776) : Does Tryz.prog 108 [vM r c 1 xs.length ca] [(1, .ro (.ints xs))] 2 (CopyM r c xs 2 3) := by
 refine Does.intro TT Tryz.func108 rfl (by kernel_rfl) Zz Zz fun E hE => ?_
 ((repeat' (first | refine stp ?_ | (refine stq ?_ ?_ <;> (intro hc; ((try simp at hc) <;> try contradiction))) | fail)) <;> try (exfalso; omega))
 refine awp_held TM [(2, _)] sb rfl (fun ρs => ?_)
 refine zt0 ?_
 refine zt1 ?_
 refine zt2 ?_
 refine zt3 ?_
 refine zt5 ?_
 refine zt6 ?_
 refine w_u [4] kr rfl ⟨?_, trivial⟩
 first | (refine zho ?_) | (refine zqy ?_; intro cap hcap)
 refine w_u [7] kr rfl ⟨?_, trivial⟩
 first | (refine zho ?_) | (refine zqy ?_; intro cap hcap)
 refine zt8 ?_
 refine w_u [9] kr rfl ⟨?_, trivial⟩
 first | (refine zho ?_) | (refine zqy ?_; intro cap hcap)
 refine w_v kr ?_
 rotate_left
 all_goals ((repeat' (first | refine stx ?_ | (refine stq ?_ ?_ <;> (intro hc; ((try simp at hc) <;> try contradiction))) | fail)) <;> try (exfalso; omega))
 all_goals rw [Nat.zero_add] at hcap
 all_goals rw [show 0 + xs.length = xs.length from Nat.zero_add _]
 all_goals exact fin rfl w_3 [(2, 5)] (.agg [.int r, .int c, .sl 2 1 0 xs.length cap]) [(2, .own 3 cap (.ints xs))] 3 ⟨cap, hcap, rfl, rfl, rfl⟩ rfl ⟨trivial, ⟨own_ints (by simp), trivial⟩, rfl⟩ rfl
end Go.Proofs.YtekpamojojfplaaGreat
namespace Go.Proofs.YtekpamojojfplaaGreat
def elimF (xs : List Int) (c i t j k : Nat) (v : Int) : Int :=
  (xs.getD (t * c + j) 0).tdiv (Int.gcd (xs.getD (i * c + j) 0) (xs.getD (t * c + j) 0)) * v - (xs.getD (i * c + j) 0).tdiv (Int.gcd (xs.getD (i * c + j) 0) (xs.getD (t * c + j) 0)) * xs.getD (t * c + k) 0
def elimOK (xs : List Int) (c i t j : Nat) : Nat → Bool
  | 0 => true
  | k + 1 => elimOK xs c i t j k && numB (elimF xs c i t j k (xs.getD (i * c + k) 0))
def elimRow (xs : List Int) (c i t j : Nat) : Option (List Int) :=
  if i = t ∨ xs.getD (i * c + j) 0 = 0 then some xs
  else if elimOK xs c i t j c then some (primAt (updTo xs (i * c) (elimF xs c i t j) c) (i * c) c) else none
def elimTo (xs : List Int) (c t j : Nat) : Nat → Option (List Int)
  | 0 => some xs
  | i + 1 => (elimTo xs c t j i).bind fun ys => elimRow ys c i t j
def findP (xs : List Int) (c j r t : Nat) : Nat := if t < r then (if xs.getD (t * c + j) 0 = 0 then findP xs c j r (t + 1) else t) else t
termination_by r - t
def colStep (r c j : Nat) (s : List Int × Nat) : Option (List Int × Nat) :=
  if findP s.1 c j r s.2 < r then
    (elimTo (if findP s.1 c j r s.2 = s.2 then s.1 else swapTo s.1 (findP s.1 c j r s.2 * c) (s.2 * c) c) c s.2 j r).map fun ys => (ys, s.2 + 1)
  else some s
def primAll (xs : List Int) (c : Nat) : Nat → List Int
  | 0 => xs
  | i + 1 => primAt (primAll xs c i) (i * c) c
def echTo (xs : List Int) (r c : Nat) : Nat → Option (List Int × Nat)
  | 0 => some (primAll xs c r, 0)
  | j + 1 => (echTo xs r c j).bind (colStep r c j)
def rankO (xs : List Int) (r c : Nat) : Option Nat := (echTo xs r c c).map (·.2)
theorem all_set {l : List Int} {p : Int → Bool} {i : Nat} {v : Int} (h : l.all p = true) (hv : p v = true) : (l.set i v).all p = true := by
  rw [List.all_eq_true] at h ⊢
  intro x hx
  rcases List.mem_or_eq_of_mem_set hx with q | rfl
  · exact h x q
  · exact hv
theorem updTo_num {xs : List Int} {off : Nat} {f : Nat → Int → Int} (h : xs.all numB = true) : ∀ {n : Nat}, (∀ k, k < n → numB (f k (xs.getD (off + k) 0)) = true) → (updTo xs off f n).all numB = true
  | 0, _ => h
  | n + 1, hf => all_set (updTo_num h fun k hk => hf k (by omega)) (hf n (by omega))
theorem swapTo_num {xs : List Int} {o1 o2 : Nat} (h : xs.all numB = true) : ∀ {k : Nat}, (swapTo xs o1 o2 k).all numB = true
  | 0 => h
  | k + 1 => all_set (all_set (swapTo_num h) (numB_true.2 (num_getD h _))) (numB_true.2 (num_getD h _))
end Go.Proofs.YtekpamojojfplaaGreat
namespace Go.Proofs.YtekpamojojfplaaGreat
open Go.RowKit
def idTo (n i : Nat) : List Int := (List.range (n * n)).map fun p => if p / n = p % n ∧ p / n < i then 1 else 0
@[simp] theorem idTo_len {n i : Nat} : (idTo n i).length = n * n := by simp [idTo]
theorem idTo_zero {n : Nat} : idTo n 0 = List.replicate (n * n) 0 := by
  apply List.ext_getElem (by simp)
  intro p h1 h2
  simp [idTo]
theorem idTo_set {n i : Nat} (h : i < n) : (idTo n i).set (i * n + i) 1 = idTo n (i + 1) := by
  apply List.ext_getElem (by simp)
  intro p h1 h2
  rw [List.getElem_set]
  simp only [idTo, List.getElem_map, List.getElem_range]
  by_cases c : i * n + i = p
  · subst c
    have e1 : (i * n + i) / n = i := by rw [Nat.mul_comm, Nat.mul_add_div (by omega), Nat.div_eq_of_lt h, Nat.add_zero]
    have e2 : (i * n + i) % n = i := by rw [Nat.mul_comm, Nat.mul_add_mod, Nat.mod_eq_of_lt h]
    rw [if_pos rfl, e1, e2, if_pos ⟨rfl, Nat.lt_succ_self i⟩]
  · rw [if_neg c]
    have hd := Nat.div_add_mod p n
    by_cases q : p / n = p % n
    · have hne : p / n ≠ i := fun e => c (by rw [← hd, ← q, e, Nat.mul_comm])
      have : (p / n = p % n ∧ p / n < i) ↔ (p / n = p % n ∧ p / n < i + 1) := by
        generalize p / n = u at *
        exact ⟨fun h => ⟨h.1, by omega⟩, fun h => ⟨h.1, by omega⟩⟩
      simp only [this]
    · rw [if_neg (fun hh => q hh.1), if_neg (fun hh => q hh.1)]
def IdOut (n : Int) (t : TypeId) (v : AV) (Hout : List (Nat × Blk)) (n1 : Nat) : Prop :=
  match inB n 0 24 with
  | true => v = .tup [.agg [.int n, .int n, .sl 1 1 0 (n.toNat * n.toNat) (n.toNat * n.toNat)], .one (.bool true)] ∧ Hout = [(1, .own t (n.toNat * n.toNat) (.ints (idTo n.toNat n.toNat)))] ∧ n1 = 2
  | false => v = .tup [.agg zeroM, .one (.bool false)] ∧ Hout = [] ∧ n1 = 1
theorem id_lt {i n : Nat} (h : i < n) (hn : n ≤ 24) : (0 ≤ (i : Int) * n ∧ (i : Int) * n ≤ 576) ∧ (i : Int) * n + i < ((n * n : Nat) : Int) := by
  have h1 : i * n + i < n * n := cell_lt h h
  have h2 : i * n ≤ 24 * 24 := Nat.mul_le_mul (by omega) hn
  have e : (i : Int) * n = ((i * n : Nat) : Int) := by simp
  rw [e]
  omega
set_option maxHeartbeats 1000000 in
theorem d_identS (n : Int) : Does Tryz.prog 106 [vI n] [] 1 (IdOut n 3) := by
 refine Does.intro TT Tryz.func106 rfl (by kernel_rfl) Zz Zz fun E hE => ?_
 cases hn : inB n 0 24
 ·(repeat' (first | refine stx ?_ | (refine zqc (d_l1In _ _ _) ?_ <;> simp only [hn]) | (refine stq ?_ ?_ <;> (intro hc; ((try simp at hc) <;> try contradiction))) | fail))
  exact fin rfl w_3 [] (.tup [.agg zeroM, .one (.bool false)]) [] 1 (by unfold IdOut; rw [hn]; exact ⟨rfl, rfl, rfl⟩) rfl ⟨trivial, trivial, rfl⟩ rfl
 ·have hn' := inB_true.1 hn
  obtain ⟨m, rfl⟩ := Int.eq_ofNat_of_zero_le hn'.1
  have hm : m ≤ 24 := by omega
  (repeat' (first | refine stx ?_ | (refine zqc (d_l1In _ _ _) ?_ <;> simp only [hn]) | (refine w_C (d_newS _ _ hm hm) Zz Zz Zz Zz Zz Zz Zz ft Zz Zz (NewM.out) ?_; rintro v b ⟨rfl, he, -⟩; cases he) | (refine stq ?_ ?_ <;> (intro hc; ((try simp at hc) <;> try contradiction))) | fail))
  refine w_G hE (fun i : Nat => i ≤ m) (fun i => m - i)
   (fun i => [(0, vI m), (2, .one (.ptr 1 3 0 0)), (4, .one (.ptr 3 3 0 0)), (5, vI i)])
   (fun i => [(1, .own 26 1 (.lit zeroM)), (2, .own 3 (m * m) (.ints (idTo m i))), (3, .own 26 1 (.lit [.int m, .int m, .sl 2 1 0 (m * m) (m * m)]))]) 4 [] 0 (Nat.zero_le _) ⟨w_1, ⟨rfl, own_ints idTo_zero.symm, rfl, trivial⟩, rfl⟩ ?_
  intro i hi
  have hlen : (idTo m i).length = m * m := idTo_len
  by_cases c : i < m
  ·have hb := id_lt c hm
   ((repeat' (first | refine stx ?_ | (refine stq ?_ ?_ <;> (intro hc; ((try simp at hc) <;> try contradiction))) | fail)) <;> try (exfalso; omega))
   ·refine ⟨[], i + 1, c, w_4, ⟨w_1, ⟨rfl, own_ints ?_, rfl, trivial⟩, rfl⟩⟩
    rw [← idTo_set c]
    congr 1
    have : ((i : Int) * m + i).toNat = i * m + i := by
     have e : ((i : Int) * m + i) = ((i * m + i : Nat) : Int) := by simp
     rw [e]; exact Int.toNat_natCast _
    omega
  ·obtain rfl : i = m := by omega
   ((repeat' (first | refine stx ?_ | (refine stq ?_ ?_ <;> (intro hc; ((try simp at hc) <;> try contradiction))) | fail)) <;> try (exfalso; omega))
   exact fin rfl w_3 [(1, 2)] (.tup [.agg [.int i, .int i, .sl 1 1 0 (i * i) (i * i)], .one (.bool true)]) [(1, .own 3 (i * i) (.ints (idTo i i)))] 2 (by unfold IdOut; rw [hn]; exact ⟨rfl, rfl, rfl⟩) rfl ⟨trivial, ⟨rfl, trivial⟩, rfl⟩ rfl
end Go.Proofs.YtekpamojojfplaaGreat
