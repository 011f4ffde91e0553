/-
  PLAIN: isometries as functions: they are composed and turned back; determinants of products up to three rows.
-/
import Derived.Test.YtekpamojojfplaaGreatD13
set_option linter.unusedVariables false
set_option linter.unusedSimpArgs false
namespace Go.Proofs.YtekpamojojfplaaGreat

def IsoP (n : Nat) (G H X : Mx) : Prop := ∀ i k, i < n → k < n → bilM n H (X i) (X k) = G i k
def mulF (n : Nat) (Y X : Mx) : Mx := fun i j => sg (fun t => Y i t * X t j) n
def idF : Mx := fun i j => if i = j then 1 else 0
def turnF (A : Mx) : Mx := fun i j => A j i
theorem bil_sumL {n : Nat} {H X : Mx} {c y : Vec} : ∀ {m : Nat}, bilM n H (fun j => sg (fun t => c t * X t j) m) y = sg (fun t => c t * bilM n H (X t) y) m
  | 0 => bilM_zero fun _ _ => rfl
  | m + 1 => by
    have ih := bil_sumL (n := n) (H := H) (X := X) (c := c) (y := y) (m := m)
    have e := bilM_l (n := n) (A := H) (a := 1) (b := c m) (x := y) (u := fun j => sg (fun t => c t * X t j) m) (w := X m)
    rw [ih, Int.one_mul] at e
    show _ = sg (fun t => c t * bilM n H (X t) y) m + c m * bilM n H (X m) y
    rw [← e]
    refine bilM_congr (fun _ _ _ _ => rfl) (fun k _ => ?_) fun _ _ => rfl
    show sg (fun t => c t * X t k) m + c m * X m k = 1 * sg (fun t => c t * X t k) m + c m * X m k
    rw [Int.one_mul]
theorem bil_sumR {n : Nat} {H X : Mx} {c y : Vec} : ∀ {m : Nat}, bilM n H y (fun j => sg (fun t => c t * X t j) m) = sg (fun t => c t * bilM n H y (X t)) m
  | 0 => by
    show bilM n H y (fun _ => 0) = 0
    exact sg_zero fun k _ => by
      rw [show axM n H (fun _ => 0) k = 0 from sg_zero fun _ _ => Int.mul_zero _, Int.mul_zero]
  | m + 1 => by
    have ih := bil_sumR (n := n) (H := H) (X := X) (c := c) (y := y) (m := m)
    have e := bilM_r (n := n) (A := H) (a := 1) (b := c m) (x := y) (u := fun j => sg (fun t => c t * X t j) m) (w := X m)
    rw [ih, Int.one_mul] at e
    show _ = sg (fun t => c t * bilM n H y (X t)) m + c m * bilM n H y (X m)
    rw [← e]
    refine bilM_congr (fun _ _ _ _ => rfl) (fun _ _ => rfl) fun k _ => ?_
    show sg (fun t => c t * X t k) m + c m * X m k = 1 * sg (fun t => c t * X t k) m + c m * X m k
    rw [Int.one_mul]
theorem bil_mul {n : Nat} {G H X Y : Mx} (h : IsoP n G H X) (i k : Nat) : bilM n H (mulF n Y X i) (mulF n Y X k) = bilM n G (Y i) (Y k) := by
  show bilM n H (fun j => sg (fun t => Y i t * X t j) n) (fun j => sg (fun t => Y k t * X t j) n) = _
  rw [bil_sumL]
  refine sg_congr fun t ht => ?_
  rw [bil_sumR]
  show Y i t * sg (fun s => Y k s * bilM n H (X t) (X s)) n = Y i t * sg (fun s => G t s * Y k s) n
  rw [sg_congr fun s hs => by rw [h t s ht hs, Int.mul_comm]]
theorem IsoP.mul {n : Nat} {F G H X Y : Mx} (h : IsoP n G H X) (h' : IsoP n F G Y) : IsoP n F H (mulF n Y X) := fun i k hi hk => by
  rw [bil_mul h, h' i k hi hk]
theorem IsoP.congr {n : Nat} {G G' H H' X X' : Mx} (h : IsoP n G H X) (hG : ∀ i j, i < n → j < n → G i j = G' i j) (hH : ∀ i j, i < n → j < n → H i j = H' i j) (hX : ∀ i j, i < n → j < n → X i j = X' i j) : IsoP n G' H' X' := fun i k hi hk => by
  rw [← hG i k hi hk, ← h i k hi hk]
  exact (bilM_congr hH (fun j hj => hX i j hi hj) fun j hj => hX k j hk hj).symm
theorem bil_idF {n : Nat} {H : Mx} {i k : Nat} (hi : i < n) (hk : k < n) : bilM n H (idF i) (idF k) = H i k := by
  unfold bilM
  rw [sg_single hi fun t _ hne => by
    show (if i = t then (1 : Int) else 0) * _ = 0
    rw [if_neg (fun e => hne e.symm), Int.zero_mul]]
  show (if i = i then (1 : Int) else 0) * sg (fun j => H i j * (if k = j then 1 else 0)) n = H i k
  rw [if_pos rfl, Int.one_mul, sg_single hk fun t _ hne => by rw [if_neg (fun e => hne e.symm), Int.mul_zero], if_pos rfl, Int.mul_one]
/-- the way back -/
theorem IsoP.inv {n : Nat} {G H U V : Mx} (h : IsoP n G H U) (hV : ∀ i j, i < n → j < n → mulF n V U i j = idF i j) : IsoP n H G V := fun i k hi hk => by
  rw [← bil_mul h, ← bil_idF hi hk (H := H)]
  exact bilM_congr (fun _ _ _ _ => rfl) (fun j hj => hV i j hi hj) fun j hj => hV k j hk hj
theorem mulF_assoc {n : Nat} {A B C : Mx} (i j : Nat) : mulF n (mulF n A B) C i j = mulF n A (mulF n B C) i j := by
  show sg (fun t => sg (fun s => A i s * B s t) n * C t j) n = sg (fun s => A i s * sg (fun t => B s t * C t j) n) n
  rw [sg_congr (g := fun t => sg (fun s => A i s * B s t * C t j) n) fun t _ => by
    rw [Int.mul_comm, ← sg_mul]
    exact sg_congr fun s _ => by rw [Int.mul_comm]]
  rw [sg_swap]
  refine sg_congr fun s _ => ?_
  rw [← sg_mul]
  exact sg_congr fun t _ => by rw [Int.mul_assoc]
theorem mulF_congr {n : Nat} {A A' B B' : Mx} {i j : Nat} (hA : ∀ t, t < n → A i t = A' i t) (hB : ∀ t, t < n → B t j = B' t j) : mulF n A B i j = mulF n A' B' i j :=
  sg_congr fun t ht => by rw [hA t ht, hB t ht]
theorem mulF_idL {n : Nat} {A : Mx} {i j : Nat} (hi : i < n) : mulF n idF A i j = A i j := by
  show sg (fun t => (if i = t then (1 : Int) else 0) * A t j) n = A i j
  rw [sg_single hi fun t _ hne => by rw [if_neg (fun e => hne e.symm), Int.zero_mul], if_pos rfl, Int.one_mul]
theorem mulF_idR {n : Nat} {A : Mx} {i j : Nat} (hj : j < n) : mulF n A idF i j = A i j := by
  show sg (fun t => A i t * (if t = j then (1 : Int) else 0)) n = A i j
  rw [sg_single hj fun t _ hne => by rw [if_neg hne, Int.mul_zero], if_pos rfl, Int.mul_one]
theorem det1 (M : Mx) : detF 1 M = M 0 0 := by
  simp [detF, sg, sgnN]
theorem det2 (M : Mx) : detF 2 M = M 0 0 * M 1 1 - M 0 1 * M 1 0 := by
  simp [detF, sg, sgnN, minF, skp]; grind
theorem det3 (M : Mx) : detF 3 M = M 0 0 * (M 1 1 * M 2 2 - M 1 2 * M 2 1) - M 0 1 * (M 1 0 * M 2 2 - M 1 2 * M 2 0) + M 0 2 * (M 1 0 * M 2 1 - M 1 1 * M 2 0) := by
  simp [detF, sg, sgnN, minF, skp]; grind
theorem detF_turn {n : Nat} (hn : n ≤ 3) (M : Mx) : detF n (turnF M) = detF n M := by
  match n, hn with
  | 0, _ => rfl
  | 1, _ => rw [det1, det1]; rfl
  | 2, _ => rw [det2, det2]; simp only [turnF]; grind
  | 3, _ => rw [det3, det3]; simp only [turnF]; grind
theorem detF_mul {n : Nat} (hn : n ≤ 3) (A B : Mx) : detF n (mulF n A B) = detF n A * detF n B := by
  match n, hn with
  | 0, _ => rfl
  | 1, _ => simp only [det1, mulF, sg]; grind
  | 2, _ => simp only [det2, mulF, sg]; grind
  | 3, _ => simp only [det3, mulF, sg]; grind
theorem IsoP.det {n : Nat} (hn : n ≤ 3) {G H U : Mx} (h : IsoP n G H U) : detF n G = detF n U * detF n H * detF n U := by
  have e : detF n G = detF n (mulF n U (mulF n H (turnF U))) := detF_congr fun i k hi hk => (h i k hi hk).symm
  rw [e, detF_mul hn, detF_mul hn, detF_turn hn]; grind
/-- determinant 1 or -1: an inverse -/
theorem inv_right {n : Nat} {U : Mx} (hd : detF n U * detF n U = 1) : ∃ V : Mx, ∀ i j, i < n → j < n → mulF n U V i j = idF i j := by
  cases n with
  | zero => exact ⟨U, fun i j hi => by omega⟩
  | succ m =>
    refine ⟨fun i j => detF (m + 1) U * cofW m U j i, fun i j hi hj => ?_⟩
    have h := cofW_ax (A := U) hi hj
    show sg (fun t => U i t * (detF (m + 1) U * cofW m U j t)) (m + 1) = if i = j then 1 else 0
    rw [sg_congr (g := fun t => detF (m + 1) U * (U i t * cofW m U j t)) fun t _ => by grind, sg_mul]
    rw [show sg (fun t => U i t * cofW m U j t) (m + 1) = if i = j then detF (m + 1) U else 0 from h]
    split
    · exact hd
    · exact Int.mul_zero _
theorem mulF_turn {n : Nat} {A B : Mx} (i j : Nat) : mulF n (turnF A) (turnF B) i j = mulF n B A j i :=
  sg_congr fun t _ => Int.mul_comm _ _
theorem inv_ex {n : Nat} (hn : n ≤ 3) {U : Mx} (hd : detF n U * detF n U = 1) : ∃ V : Mx, (∀ i j, i < n → j < n → mulF n U V i j = idF i j) ∧ ∀ i j, i < n → j < n → mulF n V U i j = idF i j := by
  obtain ⟨V, hV⟩ := inv_right hd
  obtain ⟨W', hW'⟩ := inv_right (n := n) (U := turnF U) (by rw [detF_turn hn]; exact hd)
  have hW : ∀ i j, i < n → j < n → mulF n (turnF W') U i j = idF i j := fun i j hi hj => by
    rw [show U = turnF (turnF U) from rfl, mulF_turn, hW' j i hj hi]
    show (if j = i then (1 : Int) else 0) = if i = j then 1 else 0
    by_cases e : i = j
    · subst e; rfl
    · rw [if_neg e, if_neg (fun h => e h.symm)]
  have hVW : ∀ i j, i < n → j < n → V i j = turnF W' i j := fun i j hi hj => by
    rw [← mulF_idL hi (A := V) (j := j), ← mulF_congr (fun t ht => hW i t hi ht) (fun t _ => rfl), mulF_assoc, mulF_congr (A' := turnF W') (B' := idF) (fun _ _ => rfl) (fun t ht => hV t j ht hj), mulF_idR hj]
  exact ⟨V, hV, fun i j hi hj => by
    rw [← hW i j hi hj]
    exact mulF_congr (fun t ht => hVW i t hi ht) fun _ _ => rfl⟩
/-- a row operation keeps the determinant -/
theorem detF_add {n p t : Nat} {q : Int} {M M' : Mx} (hp : p < n) (ht : t < n) (hne : p ≠ t) (h : ∀ i b, i < n → b < n → M' i b = if i = p then M p b + M t b * q else M i b) : detF n M' = detF n M := by
  obtain ⟨m, rfl⟩ : ∃ m, n = m + 1 := ⟨n - 1, by omega⟩
  have h0 := cof_row (M := M) (i := t) (l := p) ht hp
  rw [if_neg (fun e => hne e.symm)] at h0
  rw [detF_row hp, detF_row hp]
  have e : ∀ j, j < m + 1 → sgnN (p + j) * M' p j * detF m (minF M' p j) = sgnN (p + j) * M p j * detF m (minF M p j) + q * (M t j * (sgnN (p + j) * detF m (minF M p j))) := fun j hj => by
    have e1 : detF m (minF M' p j) = detF m (minF M p j) := detF_congr fun a b ha hb => by
      show M' (skp p a) (skp j b) = M (skp p a) (skp j b)
      rw [h _ _ (skp_lt ha) (skp_lt hb), if_neg (by unfold skp; split <;> omega)]
    rw [e1, h p j hp hj, if_pos rfl]; grind
  rw [sg_congr e, sg_add, sg_mul, h0, Int.mul_zero, Int.add_zero]
end Go.Proofs.YtekpamojojfplaaGreat
