/-
  TEXTS OF THE PROOF, put together: pDetL, pVat, pSch, pLex, pHilb, pPut, pHil, pHil4.
-/
import Derived.Test.YtekpamojojfplaaGreatD13
import Derived.Test.YtekpamojojfplaaGreatD18
import Derived.Test.YtekpamojojfplaaGreatD07
import Derived.Test.YtekpamojojfplaaGreatD16
set_option linter.unusedVariables false
set_option linter.unusedSimpArgs false
namespace Go.Proofs.YtekpamojojfplaaGreat
def mxL (n : Nat) (xs : List Int) : Mx := fun i j => xs.getD (i * n + j) 0
theorem getD_app {l m : List Int} {k : Nat} (h : k < l.length) : (l ++ m).getD k 0 = l.getD k 0 := by
  rw [List.getD_eq_getElem?_getD, List.getD_eq_getElem?_getD, List.getElem?_append_left h]
theorem getD_apR {l m : List Int} {k : Nat} (h : l.length ≤ k) : (l ++ m).getD k 0 = m.getD (k - l.length) 0 := by
  rw [List.getD_eq_getElem?_getD, List.getD_eq_getElem?_getD, List.getElem?_append_right h]
theorem minRow_at {xs : List Int} {off col : Nat} : ∀ {j b : Nat}, b < (minRow xs off col j).length → (minRow xs off col j).getD b 0 = xs.getD (off + skp col b) 0
  | 0, b, h => by simp [minRow] at h
  | j + 1, b, h => by
    unfold minRow at h ⊢
    have hl := minRow_len (xs := xs) (off := off) (col := col) (j := j)
    split
    · rename_i e
      rw [if_pos e] at h
      exact minRow_at h
    · rename_i e
      rw [if_neg e, List.length_append, List.length_singleton] at h
      by_cases c : b < (minRow xs off col j).length
      · rw [getD_app c]; exact minRow_at c
      · rw [getD_apR (by omega), show b - (minRow xs off col j).length = 0 by omega]
        show xs.getD (off + j) 0 = _
        congr 2
        unfold skp
        split at hl <;> split <;> omega
theorem minM_at {xs : List Int} {n row col : Nat} (hc : col < n + 1) : ∀ {i a b : Nat}, skp row a < i → b < n → (minM xs (n + 1) row col i).getD (a * n + b) 0 = xs.getD (skp row a * (n + 1) + skp col b) 0
  | 0, a, b, h, _ => by omega
  | i + 1, a, b, h, hb => by
    have hl := minM_lenR (xs := xs) (row := row) hc (i := i)
    unfold minM
    split
    · rename_i e
      exact minM_at hc (by unfold skp at *; split at h <;> split <;> omega) hb
    · rename_i e
      by_cases c : skp row a < i
      · rw [getD_app]
        · exact minM_at hc c hb
        · rw [hl]
          have : a + 1 ≤ (if row < i then i - 1 else i) := by unfold skp at c; split at c <;> split <;> omega
          have := Nat.mul_le_mul_right n this
          rw [Nat.add_mul] at this; omega
      · have e1 : skp row a = i := by omega
        have e2 : (if row < i then i - 1 else i) = a := by unfold skp at e1; split at e1 <;> split <;> omega
        rw [e2] at hl
        rw [getD_apR (by omega), hl, show a * n + b - a * n = b by omega, minRow_at (by rw [minRow_len, if_pos hc]; omega), e1]
theorem detTo_sg {xs : List Int} {d : Nat → Option Int} {f : Nat → Int} : ∀ {j : Nat} {s : Int}, detTo xs d j = some s → (∀ i, i < j → ∀ v, d i = some v → v = f i) → s = sg (fun i => sgnN i * xs.getD i 0 * f i) j
  | 0, s, h, _ => by cases h; rfl
  | j + 1, s, h, hf => by
    unfold detTo at h
    split at h
    · cases h
    · rename_i s0 h0
      have ih := detTo_sg h0 fun i hi => hf i (by omega)
      rw [sg, ← ih]
      split at h
      · rename_i e
        cases h
        rw [e]; omega
      · split at h
        · cases h
        · rename_i v hv
          cases h
          rw [← hf j (by omega) v hv]
          unfold sgnN
          split <;> grind
theorem detZ_F : ∀ {n : Nat} {xs : List Int} {v : Int}, detZ n xs = some v → v = detF n (mxL n xs)
  | 0, xs, v, h => by cases h; rfl
  | n + 1, xs, v, h => by
    rw [detZ] at h
    have h2 : detTo xs (fun j => detZ n (minM xs (n + 1) 0 j (n + 1))) (n + 1) = some v := by
      unfold fitO at h
      split at h
      · cases h
      · rename_i s hs
        split at h
        · cases h; exact hs
        · cases h
    have := detTo_sg (f := fun j => detF n (minF (mxL (n + 1) xs) 0 j)) h2 fun j hj v hv => by
      rw [detZ_F hv]
      exact detF_congr fun a b ha hb => by
        show (minM xs (n + 1) 0 j (n + 1)).getD (a * n + b) 0 = xs.getD (skp 0 a * (n + 1) + skp j b) 0
        exact minM_at hj (skp_lt ha) hb
    rw [this, detF]
    exact sg_congr fun j hj => by
      show _ = sgnN j * xs.getD (0 * (n + 1) + j) 0 * _
      rw [Nat.zero_mul, Nat.zero_add]
theorem ldR_at {xs : List Int} {c k : Nat} (hk : k ≤ c) : ∀ {i p q : Nat}, i * c ≤ xs.length → p < i → q < k → (ldR xs c k i).getD (p * k + q) 0 = xs.getD (p * c + q) 0
  | 0, p, q, _, h, _ => by omega
  | i + 1, p, q, hx, hp, hq => by
    have hx2 : i * c ≤ xs.length := by rw [Nat.succ_mul] at hx; omega
    have hl := ldR_len (xs := xs) hk hx2
    rw [ldR_next]
    by_cases e : p < i
    · rw [getD_app (by
        rw [hl]
        have := Nat.mul_le_mul_right k (show p + 1 ≤ i by omega)
        rw [Nat.add_mul] at this; omega)]
      exact ldR_at hk hx2 e hq
    · obtain rfl : p = i := by omega
      rw [getD_apR (by omega), hl, show p * k + q - p * k = q by omega, List.getD_eq_getElem?_getD, List.getD_eq_getElem?_getD, List.getElem?_take, if_pos hq, List.getElem?_drop]
theorem defB_pos {r c : Int} {xs : List Int} (h : defB r c xs = true) : ∃ n : Nat, r = n ∧ c = n ∧ n ≤ 6 ∧ xs.length = n * n ∧ xs.all numB = true ∧ SymM n (mxL n xs) ∧ PosM n (mxL n xs) ∧ ∀ k, k < n → 0 < detF (k + 1) (mxL n xs) := by
  obtain ⟨n, rfl, rfl, hn, hx, hnum, ht, hs, hd⟩ := defB_all h
  have hsym : SymM n (mxL n xs) := fun i j hi hj => by
    show xs.getD (i * n + j) 0 = xs.getD (j * n + i) 0
    have := turnM_at (P := xs) (k := n) (c := n) (p := j) (l := i) hj hi
    rwa [ht] at this
  have hdet : ∀ k, k < n → 0 < detF (k + 1) (mxL n xs) := fun k hk => by
    obtain ⟨d, h1, h2⟩ := hd k hk
    rw [detZ_F h1] at h2
    rwa [detF_congr (M' := mxL n xs) fun i j hi hj => by
      show (ldR xs n (k + 1) (k + 1)).getD (i * (k + 1) + j) 0 = xs.getD (i * n + j) 0
      refine ldR_at (by omega) ?_ hi hj
      rw [hx]; exact Nat.mul_le_mul_right n (by omega)] at h2
  exact ⟨n, rfl, rfl, hn, hx, hnum, hsym, sylv hsym hdet, hdet⟩
end Go.Proofs.YtekpamojojfplaaGreat
namespace Go.Proofs.YtekpamojojfplaaGreat
def vatO (r c : Int) (g v : List Int) : Option Int := if gramB r c g && decide ((v.length : Int) = r) then (mulZ 1 v.length r c v g).bind fun p => (mulZ 1 c v.length 1 p v).map fun z => z.getD 0 0 else none
def posF : List Int → Bool
  | [] => false
  | x :: t => if x = 0 then posF t else decide (0 < x)
theorem dotTo_sg {xs ys : List Int} {n c i j : Nat} : ∀ k, dotTo xs ys n c i j k = sg (fun t => xs.getD (i * n + t) 0 * ys.getD (t * c + j) 0) k
  | 0 => rfl
  | k + 1 => by rw [dotTo, sg, dotTo_sg k]
theorem mulM_getD {r n c i j : Nat} {xs ys : List Int} (hi : i < r) (hj : j < c) : (mulM r n c xs ys).getD (i * c + j) 0 = sg (fun t => xs.getD (i * n + t) 0 * ys.getD (t * c + j) 0) n := by
  have h := cell_lt hi hj
  rw [List.getD_eq_getElem?_getD, List.getElem?_eq_getElem (by rw [mulM_len]; exact h), Option.getD_some, mulM_at hi hj, dotTo_sg]
theorem mulZ_eq {r n n' c : Int} {xs ys p : List Int} (h : mulZ r n n' c xs ys = some p) : p = mulM r.toNat n.toNat c.toNat xs ys := by
  unfold mulZ at h
  split at h
  · cases h; rfl
  · cases h
theorem gramB_nat {r c : Int} {g : List Int} (h : gramB r c g = true) : ∃ n : Nat, r = n ∧ c = n ∧ n ≤ 6 ∧ g.length = n * n ∧ g.all numB = true ∧ SymM n (mxL n g) := by
  simp only [gramB, Bool.and_eq_true, decide_eq_true_eq] at h
  obtain ⟨n, rfl, rfl, hn, hx, hnum⟩ := sqB_dims h.1
  refine ⟨n, rfl, rfl, hn, hx, hnum, fun i j hi hj => ?_⟩
  show g.getD (i * n + j) 0 = g.getD (j * n + i) 0
  have := turnM_at (P := g) (k := n) (c := n) (p := j) (l := i) hj hi
  have ht := h.2
  simp only [Int.toNat_natCast] at ht
  rwa [ht] at this
theorem vatO_some {r c : Int} {g v : List Int} {z : Int} (h : vatO r c g v = some z) : ∃ n : Nat, r = n ∧ c = n ∧ gramB r c g = true ∧ v.length = n ∧ v.all numB = true ∧ numB z = true ∧ z = bilM n (mxL n g) (vecL v) (vecL v) := by
  unfold vatO at h
  split at h
  · rename_i hc
    simp only [Bool.and_eq_true, decide_eq_true_eq] at hc
    obtain ⟨n, rfl, rfl, hn, hx, hnum, hs⟩ := gramB_nat hc.1
    have hvl : v.length = n := by omega
    obtain ⟨p, hp, h⟩ := Option.bind_eq_some_iff.1 h
    obtain ⟨q, hq, rfl⟩ := Option.map_eq_some_iff.1 h
    have h1 := mulZ_some hp
    have h2 := mulZ_some hq
    have hv := (isM_nat (r := 1) (c := v.length) (by simpa using h1.1)).2.2.2
    have hqn := (isM_nat (r := 1) (c := 1) (by simpa using h2.2.2.2)).2.2.2
    refine ⟨n, rfl, rfl, hc.1, hvl, hv, numB_true.2 (num_getD hqn 0), ?_⟩
    have ep := mulZ_eq hp
    have eq := mulZ_eq hq
    rw [hvl] at ep
    simp only [Int.toNat_natCast, Int.toNat_one] at ep eq
    have hq0 : q.getD 0 0 = sg (fun t => p.getD (0 * n + t) 0 * v.getD (t * 1 + 0) 0) n := by
      rw [eq]; exact mulM_getD (i := 0) (j := 0) (r := 1) (c := 1) (by omega) (by omega)
    rw [hq0, bilM_sym hs, bilM_two, sg_swap]
    refine sg_congr fun t ht => ?_
    have hpt : p.getD (0 * n + t) 0 = sg (fun k => v.getD (0 * n + k) 0 * g.getD (k * n + t) 0) n := by
      rw [ep]; exact mulM_getD (i := 0) (r := 1) (by omega) ht
    rw [hpt, Int.mul_comm, ← sg_mul]
    refine sg_congr fun k hk => ?_
    show v.getD (t * 1 + 0) 0 * (v.getD (0 * n + k) 0 * g.getD (k * n + t) 0) = v.getD k 0 * g.getD (k * n + t) 0 * v.getD t 0
    rw [Nat.mul_one, Nat.add_zero, Nat.zero_mul, Nat.zero_add]; grind
  · cases h
theorem posF_ne : ∀ {v : List Int}, posF v = true → ∃ k, k < v.length ∧ v.getD k 0 ≠ 0
  | [], h => by cases h
  | x :: t, h => by
    unfold posF at h
    split at h
    · obtain ⟨k, hk, h2⟩ := posF_ne h
      exact ⟨k + 1, by simpa using hk, by simpa using h2⟩
    · rename_i hx
      exact ⟨0, by simp, by simpa using hx⟩
theorem posF_neg : ∀ {v : List Int}, (∃ k, v.getD k 0 ≠ 0) → posF v = true ∨ posF (v.map fun x => -x) = true
  | [], ⟨k, h⟩ => by simp at h
  | x :: t, ⟨k, h⟩ => by
    by_cases hx : x = 0
    · subst hx
      cases k with
      | zero => simp at h
      | succ k =>
        have := posF_neg (v := t) ⟨k, by simpa using h⟩
        simpa [posF] using this
    · simp only [posF, List.map_cons, if_neg hx, if_neg (show ¬ -x = 0 by omega), decide_eq_true_eq]
      omega
theorem vat_pos {r c : Int} {g v : List Int} {z : Int} (hd : defB r c g = true) (hv : posF v = true) (h : vatO r c g v = some z) : 1 ≤ z := by
  obtain ⟨n, rfl, rfl, -, hvl, -, -, rfl⟩ := vatO_some h
  obtain ⟨n', e, -, -, -, -, -, hp, -⟩ := defB_pos hd
  obtain rfl : n' = n := by omega
  obtain ⟨k, hk, h0⟩ := posF_ne hv
  exact hp _ ⟨k, by omega, h0⟩
def unitV (j : Nat) : Vec := fun k => if k = j then 1 else 0
theorem bil_unit {n j : Nat} {A : Mx} {x : Vec} (hj : j < n) : bilM n A x (unitV j) = sg (fun i => x i * A i j) n := by
  unfold bilM axM
  refine sg_congr fun i _ => ?_
  rw [sg_single hj fun k hk hne => by simp [unitV, hne]]
  simp [unitV]
theorem sq_le {x b : Int} (hb : 0 ≤ b) (h : x * x ≤ b * b) : -b ≤ x ∧ x ≤ b := by
  constructor
  · rcases Int.lt_or_le x (-b) with c | c
    · have := Int.mul_le_mul (show b + 1 ≤ -x by omega) (show b + 1 ≤ -x by omega) (by omega) (by omega)
      rw [Int.neg_mul_neg, show (b + 1) * (b + 1) = b * b + 2 * b + 1 by grind] at this
      omega
    · exact c
  · rcases Int.lt_or_le b x with c | c
    · have := Int.mul_le_mul (show b + 1 ≤ x by omega) (show b + 1 ≤ x by omega) (by omega) (by omega)
      rw [show (b + 1) * (b + 1) = b * b + 2 * b + 1 by grind] at this
      omega
    · exact c
end Go.Proofs.YtekpamojojfplaaGreat
namespace Go.Proofs.YtekpamojojfplaaGreat
def inTo (h : List Int) (n : Nat) (x y : List Int) (a : Nat) (b : Nat) : Int := sg (fun j => x.getD a 0 * h.getD (a * n + j) 0 * y.getD j 0) b
def prTo (h : List Int) (n : Nat) (x y : List Int) (a : Nat) : Int := sg (fun i => inTo h n x y i n) a
def prodH (h : List Int) (n : Nat) (x y : List Int) : Int := prTo h n x y n
theorem prodH_bil {h x y : List Int} {n : Nat} : prodH h n x y = bilM n (mxL n h) (vecL x) (vecL y) := by rw [bilM_two]; rfl
theorem prodH_sym {h x y : List Int} {n : Nat} (hs : SymM n (mxL n h)) : prodH h n x y = prodH h n y x := by rw [prodH_bil, prodH_bil, bilM_sym hs]
def Sm (n : Nat) (x : List Int) : Prop := x.length = n ∧ ∀ k, -2000 ≤ x.getD k 0 ∧ x.getD k 0 ≤ 2000
theorem mulB_bd {a b A B : Int} (h1 : -A ≤ a ∧ a ≤ A) (h2 : -B ≤ b ∧ b ≤ B) : -(A * B) ≤ a * b ∧ a * b ≤ A * B := by
  have h : a.natAbs * b.natAbs ≤ A.toNat * B.toNat := Nat.mul_le_mul (by omega) (by omega)
  have e := Int.natAbs_mul a b
  have e2 : ((A.toNat * B.toNat : Nat) : Int) = A * B := by rw [Int.natCast_mul, Int.toNat_of_nonneg (by omega), Int.toNat_of_nonneg (by omega)]
  omega
theorem tm_bd {h x y : List Int} {n a j : Nat} (hh : h.all numB = true) (hx : Sm n x) (hy : Sm n y) : (-800000000000 ≤ x.getD a 0 * h.getD (a * n + j) 0 ∧ x.getD a 0 * h.getD (a * n + j) 0 ≤ 800000000000) ∧ -1600000000000000 ≤ x.getD a 0 * h.getD (a * n + j) 0 * y.getD j 0 ∧ x.getD a 0 * h.getD (a * n + j) 0 * y.getD j 0 ≤ 1600000000000000 := by
  have h1 := mulB_bd (hx.2 a) (num_getD hh (a * n + j))
  have h2 := mulB_bd (A := 800000000000) h1 (hy.2 j)
  exact ⟨h1, h2⟩
theorem in_bd {h x y : List Int} {n a : Nat} (hh : h.all numB = true) (hx : Sm n x) (hy : Sm n y) : ∀ b : Nat, -(1600000000000000 * (b : Int)) ≤ inTo h n x y a b ∧ inTo h n x y a b ≤ 1600000000000000 * (b : Int)
  | 0 => by simp [inTo, sg]
  | b + 1 => by
    have ih := in_bd hh hx hy (a := a) b
    have h1 := (tm_bd (a := a) (j := b) hh hx hy).2
    have e : inTo h n x y a (b + 1) = inTo h n x y a b + x.getD a 0 * h.getD (a * n + b) 0 * y.getD b 0 := rfl
    omega
theorem pr_bd {h x y : List Int} {n : Nat} (hn : n ≤ 6) (hh : h.all numB = true) (hx : Sm n x) (hy : Sm n y) : ∀ a : Nat, -(9600000000000000 * (a : Int)) ≤ prTo h n x y a ∧ prTo h n x y a ≤ 9600000000000000 * (a : Int)
  | 0 => by simp [prTo, sg]
  | a + 1 => by
    have ih := pr_bd hn hh hx hy a
    have h1 := in_bd hh hx hy (a := a) n
    have e : prTo h n x y (a + 1) = prTo h n x y a + inTo h n x y a n := rfl
    omega
def fitB (g h : List Int) (n : Nat) (rows : List (List Int)) (x : List Int) : Bool := decide (∀ k, k < rows.length → prodH h n x (rows.getD k []) = g.getD (rows.length * n + k) 0) && decide (prodH h n x x = g.getD (rows.length * n + rows.length) 0)
def schN (g h : List Int) (n most : Nat) (pool : List (List Int)) : Nat → List (List Int) → Nat → List (List Int)
  | 0, rows, k => if most ≤ k then [] else [rows.flatten]
  | d + 1, rows, k => if most ≤ k then [] else pool.foldl (fun acc x => if fitB g h n rows x then acc ++ schN g h n most pool d (rows ++ [x]) (k + acc.length) else acc) []
def accN (g h : List Int) (n most : Nat) (pool : List (List Int)) (d : Nat) (rows : List (List Int)) (k p : Nat) : List (List Int) := (pool.take p).foldl (fun acc x => if fitB g h n rows x then acc ++ schN g h n most pool d (rows ++ [x]) (k + acc.length) else acc) []
theorem accN_next {g h : List Int} {n most : Nat} {pool : List (List Int)} {d : Nat} {rows : List (List Int)} {k p : Nat} (hp : p < pool.length) :
    accN g h n most pool d rows k (p + 1) = if fitB g h n rows pool[p] then accN g h n most pool d rows k p ++ schN g h n most pool d (rows ++ [pool[p]]) (k + (accN g h n most pool d rows k p).length) else accN g h n most pool d rows k p := by
  unfold accN
  rw [List.take_succ_eq_append_getElem hp, List.foldl_append]; rfl
theorem schN_stop {g h : List Int} {n most : Nat} {pool : List (List Int)} {d : Nat} {rows : List (List Int)} {k : Nat} (hk : most ≤ k) : schN g h n most pool d rows k = [] := by
  cases d <;> rw [schN, if_pos hk]
theorem schN_go {g h : List Int} {n most : Nat} {pool : List (List Int)} {d : Nat} {rows : List (List Int)} {k : Nat} (hk : ¬ most ≤ k) : schN g h n most pool (d + 1) rows k = accN g h n most pool d rows k pool.length := by
  rw [schN, if_neg hk, accN, List.take_length]
theorem schN_len {g h : List Int} {n most : Nat} {pool : List (List Int)} : ∀ {d : Nat} {rows : List (List Int)} {k : Nat}, k ≤ most → k + (schN g h n most pool d rows k).length ≤ most
  | 0, rows, k, hk => by
    rw [schN]
    split
    · simpa using hk
    · simp; omega
  | d + 1, rows, k, hk => by
    rw [schN]
    split
    · simpa using hk
    · suffices hs : ∀ (l acc : List (List Int)), k + acc.length ≤ most → k + (l.foldl (fun acc x => if fitB g h n rows x then acc ++ schN g h n most pool d (rows ++ [x]) (k + acc.length) else acc) acc).length ≤ most by
        exact hs pool [] (by simpa using hk)
      intro l
      induction l with
      | nil => intro acc ha; exact ha
      | cons x l ih =>
        intro acc ha
        rw [List.foldl_cons]
        refine ih _ ?_
        split
        · rw [List.length_append]
          have := schN_len (g := g) (h := h) (n := n) (pool := pool) (d := d) (rows := rows ++ [x]) ha
          omega
        · exact ha
theorem accN_len {g h : List Int} {n most : Nat} {pool : List (List Int)} {d : Nat} {rows : List (List Int)} {k : Nat} (hk : k ≤ most) : ∀ p, p ≤ pool.length → k + (accN g h n most pool d rows k p).length ≤ most
  | 0, _ => by simpa [accN] using hk
  | p + 1, hp => by
    have ih := accN_len (g := g) (h := h) (n := n) (pool := pool) (d := d) (rows := rows) hk p (by omega)
    rw [accN_next (show p < pool.length by omega)]
    split
    · rw [List.length_append]
      have := schN_len (g := g) (h := h) (n := n) (pool := pool) (d := d) (rows := rows ++ [pool[p]]) ih
      omega
    · exact ih
def poolI (S : List (List Int)) : List (List Int) := S.flatMap fun v => [v, v.map fun x => -x]
theorem poolI_len {S : List (List Int)} : (poolI S).length = 2 * S.length := by
  unfold poolI
  induction S with
  | nil => rfl
  | cons v S ih => rw [List.flatMap_cons, List.length_append, ih, List.length_cons]; simp; omega
theorem poolI_at {S : List (List Int)} : ∀ {i : Nat} (hi : i < S.length), (poolI S)[2 * i]'(by rw [poolI_len]; omega) = S[i] ∧ (poolI S)[2 * i + 1]'(by rw [poolI_len]; omega) = S[i].map fun x => -x := by
  induction S with
  | nil => intro i hi; simp at hi
  | cons v S ih =>
    intro i hi
    cases i with
    | zero => exact ⟨rfl, rfl⟩
    | succ i =>
      have := ih (i := i) (by simpa using hi)
      exact this
theorem Sm.neg {n : Nat} {x : List Int} (h : Sm n x) : Sm n (x.map fun x => -x) := by
  refine ⟨by rw [List.length_map]; exact h.1, fun k => ?_⟩
  rw [List.getD_eq_getElem?_getD, List.getElem?_map]
  have := h.2 k
  rw [List.getD_eq_getElem?_getD] at this
  cases hx : x[k]? with
  | none => simp
  | some z => rw [hx] at this; simp at this ⊢; omega
end Go.Proofs.YtekpamojojfplaaGreat
namespace Go.Proofs.YtekpamojojfplaaGreat
def cmpL : List Int → List Int → Int
  | [], [] => 0
  | [], _ :: _ => -1
  | _ :: _, [] => 1
  | a :: s, b :: t => if a < b then -1 else if b < a then 1 else cmpL s t
theorem cmpL_self : ∀ s, cmpL s s = 0
  | [] => rfl
  | a :: s => by simp [cmpL, cmpL_self s]
theorem cmpL_eq : ∀ {s t : List Int}, cmpL s t = 0 → s = t
  | [], [], _ => rfl
  | [], _ :: _, h => by simp [cmpL] at h
  | _ :: _, [], h => by simp [cmpL] at h
  | a :: s, b :: t, h => by
    rw [cmpL] at h
    split at h
    · omega
    · split at h
      · omega
      · rw [cmpL_eq h, show a = b by omega]
theorem cmpL_neg : ∀ (s t : List Int), cmpL t s = - cmpL s t
  | [], [] => rfl
  | [], _ :: _ => rfl
  | _ :: _, [] => rfl
  | a :: s, b :: t => by
    have := cmpL_neg s t
    simp only [cmpL]
    split <;> split <;> first | omega | (split <;> omega)
theorem cmpL_trans : ∀ {s t u : List Int}, cmpL s t < 0 → cmpL t u < 0 → cmpL s u < 0
  | [], [], _, h, _ => by simp [cmpL] at h
  | [], _ :: _, [], _, h => by simp [cmpL] at h
  | [], _ :: _, _ :: _, _, _ => by simp [cmpL]
  | _ :: _, [], _, h, _ => by simp [cmpL] at h
  | _ :: _, _ :: _, [], _, h => by simp [cmpL] at h
  | a :: s, b :: t, c :: u, h1, h2 => by
    rw [cmpL] at h1 h2 ⊢
    split at h1
    · split at h2
      · rw [if_pos (by omega)]; omega
      · split at h2
        · omega
        · rw [if_pos (by omega)]; omega
    · split at h1
      · omega
      · split at h2
        · rw [if_pos (by omega)]; omega
        · split at h2
          · omega
          · rw [if_neg (by omega), if_neg (by omega)]
            exact cmpL_trans h1 h2
def StrictL (l : List (List Int)) : Prop := l.Pairwise fun x y => cmpL x y < 0
def addL : List (List Int) → List Int → List (List Int)
  | [], v => [v]
  | x :: l, v => if cmpL x v < 0 then x :: addL l v else if cmpL v x < 0 then v :: x :: l else x :: l
def addsL (l : List (List Int)) : List (List Int) := l.foldl addL []
theorem StrictL.filter {l : List (List Int)} (hs : StrictL l) (p : List Int → Bool) : StrictL (l.filter p) := List.Pairwise.filter p hs
end Go.Proofs.YtekpamojojfplaaGreat
namespace Go.Proofs.YtekpamojojfplaaGreat
def difL (a b : List Int) : List Int := (List.range a.length).map fun k => a.getD k 0 - b.getD k 0
def zeroL (a : List Int) : Prop := ∀ k, k < a.length → a.getD k 0 = 0
instance {a : List Int} : Decidable (zeroL a) := by unfold zeroL; infer_instance
theorem difL_len {a b : List Int} : (difL a b).length = a.length := by simp [difL]
theorem difL_at {a b : List Int} {k : Nat} (h : k < a.length) : (difL a b).getD k 0 = a.getD k 0 - b.getD k 0 := by simp [difL, h]
def cmpV (x y : List Int × Int) : Int := if x.2 ≠ y.2 then x.2 - y.2 else cmpL x.1 y.1
theorem cmpV_self (x : List Int × Int) : cmpV x x = 0 := by simp [cmpV, cmpL_self]
theorem cmpV_eq {x y : List Int × Int} (h : cmpV x y = 0) : x = y := by
  unfold cmpV at h
  split at h
  · omega
  · rename_i e
    exact Prod.ext (cmpL_eq h) (by omega)
theorem cmpV_neg (x y : List Int × Int) : cmpV y x < 0 ↔ 0 < cmpV x y := by
  unfold cmpV
  have := cmpL_neg x.1 y.1
  by_cases e : x.2 = y.2
  · rw [if_neg (by omega), if_neg (by omega)]; omega
  · rw [if_pos (Ne.symm e), if_pos e]; omega
theorem cmpV_trans {x y z : List Int × Int} (h1 : cmpV x y < 0) (h2 : cmpV y z < 0) : cmpV x z < 0 := by
  unfold cmpV at *
  split at h1
  · split at h2
    · rw [if_pos (by omega)]; omega
    · rw [if_pos (by omega)]; omega
  · split at h2
    · rw [if_pos (by omega)]; omega
    · rw [if_neg (by omega)]
      exact cmpL_trans h1 h2
def StrictV (l : List (List Int × Int)) : Prop := l.Pairwise fun x y => cmpV x y < 0
theorem strictV_ext : ∀ {l m : List (List Int × Int)}, StrictV l → StrictV m → (∀ x, x ∈ l ↔ x ∈ m) → l = m
  | [], [], _, _, _ => rfl
  | [], y :: m, _, _, h => by have := (h y).2 (by simp); cases this
  | x :: l, [], _, _, h => by have := (h x).1 (by simp); cases this
  | x :: l, y :: m, h1, h2, h => by
    have a1 := List.pairwise_cons.1 h1
    have a2 := List.pairwise_cons.1 h2
    have e : x = y := by
      rcases List.mem_cons.1 ((h x).1 (by simp)) with e | e
      · exact e
      · rcases List.mem_cons.1 ((h y).2 (by simp)) with f | f
        · exact f.symm
        · have g1 := a2.1 x e
          have g2 := a1.1 y f
          have := (cmpV_neg x y).1 g1
          omega
    subst e
    rw [strictV_ext a1.2 a2.2 fun z => ?_]
    constructor
    · intro hz
      rcases List.mem_cons.1 ((h z).1 (List.mem_cons_of_mem _ hz)) with e | e
      · subst e
        have := a1.1 z hz
        rw [cmpV_self] at this
        omega
      · exact e
    · intro hz
      rcases List.mem_cons.1 ((h z).2 (List.mem_cons_of_mem _ hz)) with e | e
      · subst e
        have := a2.1 z hz
        rw [cmpV_self] at this
        omega
      · exact e
def putV : List (List Int × Int) → List Int × Int → List (List Int × Int)
  | [], v => [v]
  | x :: l, v => if (x :: l).all (fun y => decide (0 < cmpV y v)) then v :: x :: l else x :: putV l v
theorem mem_putV : ∀ {l : List (List Int × Int)} {v x : List Int × Int}, x ∈ putV l v ↔ x = v ∨ x ∈ l
  | [], v, x => by simp [putV]
  | y :: l, v, x => by
    rw [putV]
    split
    · simp
    · rw [List.mem_cons, mem_putV, List.mem_cons]
      constructor
      · rintro (h | h | h)
        · exact .inr (.inl h)
        · exact .inl h
        · exact .inr (.inr h)
      · rintro (h | h | h)
        · exact .inr (.inl h)
        · exact .inl h
        · exact .inr (.inr h)
def redV (K : List Int → Bool) (F : List (List Int × Int)) (x : List Int) : Bool := F.any fun y => !decide (zeroL (difL x y.1)) && K (difL x y.1)
def greedV (K : List Int → Bool) (l : List (List Int × Int)) : List (List Int × Int) := l.foldl (fun out x => if out.any fun y => K (difL x.1 y.1) then out else out ++ [x]) []
structure ConeV (b : Nat) (K : List Int → Bool) (ht : List Int → Int) : Prop where
  add : ∀ u v w : List Int, u.length = b → v.length = b → w.length = b → (∀ k, k < b → w.getD k 0 = u.getD k 0 + v.getD k 0) → K u = true → K v = true → K w = true
  hadd : ∀ u v w : List Int, u.length = b → v.length = b → w.length = b → (∀ k, k < b → w.getD k 0 = u.getD k 0 + v.getD k 0) → ht w = ht u + ht v
  pos : ∀ u : List Int, u.length = b → K u = true → ¬ zeroL u → 0 < ht u
structure InV (b : Nat) (K : List Int → Bool) (ht : List Int → Int) (F : List (List Int × Int)) : Prop where
  len : ∀ y ∈ F, y.1.length = b
  hgt : ∀ y ∈ F, y.2 = ht y.1
  pos : ∀ y ∈ F, 0 < ht y.1
theorem redV_iff {K : List Int → Bool} {F : List (List Int × Int)} {x : List Int} : redV K F x = true ↔ ∃ y ∈ F, ¬ zeroL (difL x y.1) ∧ K (difL x y.1) = true := by
  simp only [redV, List.any_eq_true, Bool.and_eq_true, Bool.not_eq_true', decide_eq_false_iff_not]
theorem ConeV.low {b : Nat} {K : List Int → Bool} {ht : List Int → Int} (hC : ConeV b K ht) {F : List (List Int × Int)} (hF : InV b K ht F) : ∀ (N : Nat) (x : List Int) (y : List Int × Int), x.length = b → y ∈ F → ht y.1 ≤ (N : Int) → K (difL x y.1) = true → ∃ z ∈ F, redV K F z.1 = false ∧ K (difL x z.1) = true ∧ ht z.1 ≤ ht y.1 := fun N => by
  induction N with
  | zero =>
    intro x y hx hy hN hk
    have := hF.pos y hy
    omega
  | succ N ih =>
    intro x y hx hy hN hk
    cases hr : redV K F y.1
    · exact ⟨y, hy, hr, hk, Int.le_refl _⟩
    · obtain ⟨z, hz, h1, h2⟩ := redV_iff.1 hr
      have ly := hF.len y hy
      have lz := hF.len z hz
      have e1 := hC.hadd z.1 (difL y.1 z.1) y.1 lz (by rw [difL_len]; exact ly) ly fun k hk => by rw [difL_at (by omega)]; omega
      have e2 := hC.pos (difL y.1 z.1) (by rw [difL_len]; exact ly) h2 h1
      have e3 := hC.add (difL x y.1) (difL y.1 z.1) (difL x z.1) (by rw [difL_len]; exact hx) (by rw [difL_len]; exact ly) (by rw [difL_len]; exact hx) (fun k hk => by rw [difL_at (by omega), difL_at (by omega), difL_at (by omega)]; omega) hk h2
      obtain ⟨u, hu, h3, h4, h5⟩ := ih x z hx hz (by omega) e3
      exact ⟨u, hu, h3, h4, by omega⟩
end Go.Proofs.YtekpamojojfplaaGreat
namespace Go.Proofs.YtekpamojojfplaaGreat
theorem strict_of {l : List (List Int × Int)} (h : l.Pairwise fun x y => ¬ cmpV y x < 0) (hn : l.Nodup) : StrictV l := by
  refine (h.and hn).imp ?_
  rintro x y ⟨h1, h2⟩
  rcases Int.lt_trichotomy (cmpV x y) 0 with c | c | c
  · exact c
  · exact absurd (cmpV_eq c) h2
  · exact absurd ((cmpV_neg x y).2 c) h1
theorem putV_at {x : List Int × Int} : ∀ {L : List (List Int × Int)} {k : Nat}, k ≤ L.length → (∀ j, k ≤ j → j < L.length → 0 < cmpV (L.getD j ([], 0)) x) → (k = 0 ∨ ¬ 0 < cmpV (L.getD (k - 1) ([], 0)) x) → putV L x = L.take k ++ x :: L.drop k
  | [], k, hk, _, _ => by
    have : k = 0 := by simpa using hk
    subst this; simp [putV]
  | y :: L, 0, _, h, _ => by
    have ha : (y :: L).all (fun y => decide (0 < cmpV y x)) = true := List.all_eq_true.2 fun z hz => by
      obtain ⟨j, hj, rfl⟩ := List.mem_iff_getElem.1 hz
      have := h j (by omega) hj
      rw [getD_in hj] at this
      exact decide_eq_true this
    rw [putV, if_pos ha]; rfl
  | y :: L, k + 1, hk, h, h2 => by
    have hn : ¬ 0 < cmpV ((y :: L).getD k ([], 0)) x := by
      rcases h2 with h2 | h2
      · omega
      · exact h2
    have hkl : k < (y :: L).length := by omega
    have ha : ¬ (y :: L).all (fun y => decide (0 < cmpV y x)) = true := fun ha => by
      have := List.all_eq_true.1 ha _ (List.getElem_mem hkl)
      rw [← getD_in (d := ([], 0)) hkl] at this
      exact hn (of_decide_eq_true this)
    have ih := putV_at (x := x) (L := L) (k := k) (by simpa using hk) (fun j h1 h3 => by simpa using h (j + 1) (by omega) (by simpa using h3)) (by
      rcases k with _ | k
      · exact .inl rfl
      · right; simpa using hn)
    rw [putV, if_neg ha, ih]; rfl
theorem putV_strict {x : List Int × Int} {L : List (List Int × Int)} (h : StrictV L) (hx : x ∉ L) : StrictV (putV L x) := by
  induction L with
  | nil => simp [putV, StrictV]
  | cons y L ih =>
    have h1 := List.pairwise_cons.1 h
    rw [putV]
    split
    · rename_i ha
      refine List.pairwise_cons.2 ⟨fun z hz => ?_, h⟩
      have := of_decide_eq_true (List.all_eq_true.1 ha z hz)
      exact (cmpV_neg z x).2 this
    · rename_i ha
      have hyx : cmpV y x < 0 := by
        rcases Int.lt_trichotomy (cmpV y x) 0 with c | c | c
        · exact c
        · exact absurd (cmpV_eq c) (fun e => hx (by rw [e]; simp))
        · exfalso
          apply ha
          refine List.all_eq_true.2 fun z hz => decide_eq_true ?_
          rcases List.mem_cons.1 hz with e | e
          · rw [e]; exact c
          · exact (cmpV_neg z x).1 (cmpV_trans ((cmpV_neg y x).2 c) (h1.1 z e))
      refine List.pairwise_cons.2 ⟨fun z hz => ?_, ih h1.2 fun e => hx (by simp [e])⟩
      rcases mem_putV.1 hz with e | e
      · rw [e]; exact hyx
      · exact h1.1 z e
def putsV (L : List (List Int × Int)) : List (List Int × Int) := L.foldl putV []
theorem putsV_snoc (L : List (List Int × Int)) (x : List Int × Int) : putsV (L ++ [x]) = putV (putsV L) x := by simp [putsV]
theorem mem_puts {L : List (List Int × Int)} {x : List Int × Int} : x ∈ putsV L ↔ x ∈ L := by
  suffices h : ∀ (L M : List (List Int × Int)), x ∈ L.foldl putV M ↔ x ∈ M ∨ x ∈ L by have := h L []; simpa [putsV] using this
  intro L
  induction L with
  | nil => intro M; simp
  | cons y L ih =>
    intro M
    rw [List.foldl_cons, ih, mem_putV, List.mem_cons]
    constructor
    · rintro ((h | h) | h)
      · exact .inr (.inl h)
      · exact .inl h
      · exact .inr (.inr h)
    · rintro (h | h | h)
      · exact .inl (.inr h)
      · exact .inl (.inl h)
      · exact .inr h
theorem puts_strict {L : List (List Int × Int)} (h : L.Nodup) : StrictV (putsV L) := by
  suffices hs : ∀ (L M : List (List Int × Int)), L.Nodup → StrictV M → (∀ x ∈ L, x ∉ M) → StrictV (L.foldl putV M) by
    exact hs L [] h List.Pairwise.nil fun x _ h => by cases h
  intro L
  induction L with
  | nil => intro M _ h _; exact h
  | cons y L ih =>
    intro M h1 h2 h3
    have h4 := List.pairwise_cons.1 h1
    rw [List.foldl_cons]
    refine ih _ h4.2 (putV_strict h2 (h3 y (by simp))) fun x hx hm => ?_
    rcases mem_putV.1 hm with e | e
    · exact h4.1 x hx e.symm
    · exact h3 x (by simp [hx]) e
end Go.Proofs.YtekpamojojfplaaGreat
namespace Go.Proofs.YtekpamojojfplaaGreat
theorem box_le {lo hi : List Int} : ∀ {t : Nat}, t ≤ lo.length → ∀ v ∈ boxTo lo hi t, ∀ k, k < t → lo.getD k 0 ≤ v.getD k 0 ∧ v.getD k 0 < lo.getD k 0 + widW lo hi k
  | 0, _, v, _, k, hk => by omega
  | t + 1, ht, v, h, k, hk => by
    simp only [boxTo, extL, spanL, List.mem_flatMap, List.mem_map, List.mem_range] at h
    obtain ⟨u, hu, n, ⟨m, hm, rfl⟩, rfl⟩ := h
    have hul := box_row u hu
    by_cases c : k < t
    · have := box_le (by omega) u hu k c
      rw [getD_appL (by omega)]; exact this
    · obtain rfl : k = t := by omega
      have e : (u ++ [lo.getD k 0 + (m : Int)]).getD k 0 = lo.getD k 0 + (m : Int) := by
        rw [getD_appR (by omega), show k - u.length = 0 by omega]; rfl
      rw [e]
      have : 0 < widW lo hi k := by omega
      omega
theorem ok_wid {lo hi : List Int} (hw : ∀ k, k < lo.length → 1 ≤ widW lo hi k) : ∀ {t : Nat}, t ≤ lo.length → okTo lo hi t = true → ∀ k, k < t → widW lo hi k ≤ 4000
  | 0, _, _, k, hk => by omega
  | t + 1, ht, h, k, hk => by
    rw [okTo, Bool.and_eq_true, decide_eq_true_eq, cntW] at h
    by_cases c : k < t
    · exact ok_wid hw (by omega) h.1 k c
    · obtain rfl : k = t := by omega
      have h1 := (box_len hw k (by omega)).2
      have h2 := hw k ht
      have := Int.mul_le_mul_of_nonneg_right h1 (show 0 ≤ widW lo hi k by omega)
      omega
theorem box_sm {w : List Int} {L : List (List Int)} (hw : ∀ k, 0 ≤ w.getD k 0) (h : boxO (w.map fun x => -x) w = some L) : ∀ v ∈ L, v.length = w.length ∧ ∀ k, k < w.length → -2000 ≤ v.getD k 0 ∧ v.getD k 0 ≤ 2000 := by
  have hn : ∀ k, (w.map fun x => -x).getD k 0 = -(w.getD k 0) := fun k => by
    simp only [List.getD_eq_getElem?_getD, List.getElem?_map]; cases w[k]? <;> simp
  have hwd : ∀ k, widW (w.map fun x => -x) w k = 2 * w.getD k 0 + 1 := fun k => by rw [widW, hn]; omega
  have hl : (w.map fun x => -x).length = w.length := List.length_map _
  unfold boxO at h
  split at h
  · rename_i hok
    injection h with h
    subst h
    intro v hv
    rw [hl] at hv
    refine ⟨box_row v hv, fun k hk => ?_⟩
    have h1 := box_le (by omega) v hv k hk
    have h2 := ok_wid (fun k _ => by rw [hwd]; have := hw k; omega) (Nat.le_refl _) hok k (by omega)
    rw [hwd] at h1 h2
    rw [hn] at h1
    omega
  · cases h
theorem box_4000 {lo hi : List Int} {L : List (List Int)} (hw : ∀ k, k < lo.length → 1 ≤ widW lo hi k) (h : boxO lo hi = some L) : L.length ≤ 4000 := by
  unfold boxO at h
  split at h
  · rename_i hok
    injection h with h
    have h1 := (box_len hw lo.length (Nat.le_refl _)).1
    have h2 := okTo_cnt hok
    rw [h] at h1; omega
  · cases h
theorem neg_wid {w : List Int} (hw : ∀ k, 0 ≤ w.getD k 0) (k : Nat) : 1 ≤ widW (w.map fun x => -x) w k := by
  have hn : (w.map fun x => -x).getD k 0 = -(w.getD k 0) := by
    simp only [List.getD_eq_getElem?_getD, List.getElem?_map]; cases w[k]? <;> simp
  rw [widW, hn]; have := hw k; omega
theorem neg_num {w : List Int} (h : w.all numB = true) : ∀ n ∈ w.map fun x => -x, numB n = true := fun n hn => by
  obtain ⟨m, hm, rfl⟩ := List.mem_map.1 hn
  have := numB_true.1 (List.all_eq_true.1 h m hm)
  exact numB_true.2 (by omega)
theorem all_num {v : List Int} (h : ∀ k, k < v.length → -400000000 ≤ v.getD k 0 ∧ v.getD k 0 ≤ 400000000) : v.all numB = true := List.all_eq_true.2 fun x hx => by
  obtain ⟨k, hk, rfl⟩ := List.mem_iff_getElem.1 hx
  have := h k hk
  rw [getD_in hk] at this
  exact numB_true.2 this
end Go.Proofs.YtekpamojojfplaaGreat
namespace Go.Proofs.YtekpamojojfplaaGreat
theorem box_nodup {lo hi : List Int} : ∀ t, (boxTo lo hi t).Nodup
  | 0 => by simp [boxTo]
  | t + 1 => by
    have ih := box_nodup (lo := lo) (hi := hi) t
    rw [boxTo, List.flatMap, List.Nodup, List.pairwise_flatten]
    refine ⟨fun l hl => ?_, List.pairwise_map.2 (ih.imp_of_mem ?_)⟩
    · obtain ⟨u, hu, rfl⟩ := List.mem_map.1 hl
      unfold extL spanL
      rw [List.map_map]
      refine List.pairwise_map.2 (List.nodup_range.imp fun {x y} h e => h ?_)
      have := List.append_cancel_left e
      simp at this
      omega
    · intro u v hu hv hne x hx y hy e
      subst e
      unfold extL at hx hy
      obtain ⟨n, _, rfl⟩ := List.mem_map.1 hx
      obtain ⟨m, _, e⟩ := List.mem_map.1 hy
      exact hne (List.append_inj_left e.symm (by rw [box_row u hu, box_row v hv]))
end Go.Proofs.YtekpamojojfplaaGreat
