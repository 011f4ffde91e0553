/-
  TEXTS OF THE PROOF, put together: pRays, pRank.
-/
import Derived.Test.YtfkbjkmlpinoeaaGreatR19
import Derived.Test.YtfkbjkmlpinoeaaGreatR20
import Derived.Test.YtfkbjkmlpinoeaaGreatR21
import Derived.Test.YtfkbjkmlpinoeaaGreatR22
import Derived.Test.YtfkbjkmlpinoeaaGreatR23
set_option linter.unusedVariables false
set_option linter.unusedSimpArgs false
namespace Go.Proofs.YtfkbjkmlpinoeaaGreat
def natsOf (s : List Int) : List Nat := s.map Int.toNat
def vecL (v : List Int) : Vec := fun k => v.getD k 0
def candO (r c : Nat) (xs s : List Int) : Option (List (List Int)) :=
  (kerO c (c - 1) (turnM (pickR xs c (natsOf s)) (c - 1) c)).map fun st => if st.2 = 1 then ([st.1, st.1.map fun x => -x]).filter fun v => inConeB r c xs v else []
def candTo (r c : Nat) (xs : List Int) (L : List (List Int)) : Nat → Option (List (List Int))
  | 0 => some []
  | n + 1 => (candTo r c xs L n).bind fun a => (candO r c xs (L.getD n [])).map fun b => a ++ b
def rawO (r c : Nat) (xs : List Int) : Option (List (List Int)) := candTo r c xs (chTo r (c - 1)) (chTo r (c - 1)).length
def raysO (r c : Int) (xs : List Int) : Option (List (List Int)) := if pointB r c xs then (rawO r.toNat c.toNat xs).map addsL else none
theorem candTo_mem {r c : Nat} {xs : List Int} {L : List (List Int)} : ∀ {n : Nat} {l : List (List Int)}, candTo r c xs L n = some l → ∀ v, v ∈ l ↔ ∃ j a, j < n ∧ candO r c xs (L.getD j []) = some a ∧ v ∈ a
  | 0, l, h, v => by
    cases h
    constructor
    · intro h; cases h
    · rintro ⟨j, a, hj, _⟩; omega
  | n + 1, l, h, v => by
    rw [candTo, Option.bind_eq_some_iff] at h
    obtain ⟨a, h1, h2⟩ := h
    rw [Option.map_eq_some_iff] at h2
    obtain ⟨b, h3, rfl⟩ := h2
    rw [List.mem_append, candTo_mem h1]
    constructor
    · rintro (⟨j, a', hj, e1, e2⟩ | h)
      · exact ⟨j, a', by omega, e1, e2⟩
      · exact ⟨n, b, by omega, h3, h⟩
    · rintro ⟨j, a', hj, e1, e2⟩
      by_cases e : j = n
      · subst e
        rw [h3] at e1; cases e1
        exact .inr e2
      · exact .inl ⟨j, a', by omega, e1, e2⟩
theorem candTo_all {r c : Nat} {xs : List Int} {L : List (List Int)} : ∀ {n : Nat} {l : List (List Int)}, candTo r c xs L n = some l → ∀ j, j < n → ∃ a, candO r c xs (L.getD j []) = some a
  | 0, _, _, j, hj => by omega
  | n + 1, l, h, j, hj => by
    rw [candTo, Option.bind_eq_some_iff] at h
    obtain ⟨a, h1, h2⟩ := h
    rw [Option.map_eq_some_iff] at h2
    obtain ⟨b, h3, rfl⟩ := h2
    by_cases e : j = n
    · subst e; exact ⟨b, h3⟩
    · exact candTo_all h1 j (by omega)
theorem candTo_none {r c : Nat} {xs : List Int} {L : List (List Int)} {n : Nat} (h : candTo r c xs L n = none) : ∀ m, candTo r c xs L (n + m) = none
  | 0 => h
  | m + 1 => by rw [← Nat.add_assoc, candTo, candTo_none h m]; rfl
theorem candO_len {r c : Nat} {xs s : List Int} {a : List (List Int)} (h : candO r c xs s = some a) : a.length ≤ 2 := by
  unfold candO at h
  rw [Option.map_eq_some_iff] at h
  obtain ⟨st, _, rfl⟩ := h
  split
  · exact Nat.le_trans (List.length_filter_le _ _) (by simp)
  · simp
theorem candTo_len {r c : Nat} {xs : List Int} {L : List (List Int)} : ∀ {n : Nat} {l : List (List Int)}, candTo r c xs L n = some l → l.length ≤ 2 * n
  | 0, l, h => by cases h; simp
  | n + 1, l, h => by
    rw [candTo, Option.bind_eq_some_iff] at h
    obtain ⟨a, h1, h2⟩ := h
    rw [Option.map_eq_some_iff] at h2
    obtain ⟨b, h3, rfl⟩ := h2
    have := candTo_len h1
    have := candO_len h3
    rw [List.length_append]; omega
theorem adds_le : ∀ (l acc : List (List Int)), (l.foldl addL acc).length ≤ acc.length + l.length
  | [], acc => by simp
  | x :: l, acc => by
    have h1 := adds_le l (addL acc x)
    have h2 := addL_len acc x
    rw [List.foldl_cons, List.length_cons]; omega
theorem pickR_at {xs : List Int} {r c : Nat} (hx : xs.length = r * c) : ∀ {is : List Nat} {p l : Nat}, (∀ i ∈ is, i < r) → p < is.length → l < c → (pickR xs c is).getD (p * c + l) 0 = xs.getD (is.getD p 0 * c + l) 0
  | [], p, _, _, hp, _ => by simp at hp
  | i :: is, p, l, h, hp, hl => by
    have h1 := row_in (c := c) (h i (by simp))
    have hlen : ((xs.drop (i * c)).take c).length = c := by rw [List.length_take, List.length_drop, hx]; omega
    rw [pickR, List.flatMap_cons]
    cases p with
    | zero =>
      rw [getD_appL (by rw [hlen]; omega), Nat.zero_mul, Nat.zero_add, take_getD hl]
      simp only [List.getD_eq_getElem?_getD, List.getElem?_drop, List.getD_cons_zero]
      rfl
    | succ p =>
      rw [getD_appR (by rw [hlen, Nat.succ_mul]; omega), hlen, show (p + 1) * c + l - c = p * c + l by rw [Nat.succ_mul]; omega]
      have := pickR_at hx (is := is) (p := p) (l := l) (fun j hj => h j (by simp [hj])) (by simpa using hp) hl
      rw [pickR] at this
      rw [this, List.getD_cons_succ]
theorem turnM_at {P : List Int} {k c p l : Nat} (hp : p < k) (hl : l < c) : (turnM P k c).getD (l * k + p) 0 = P.getD (p * c + l) 0 := by
  have hlt : l * k + p < c * k := cell_lt hl hp
  obtain ⟨e1, e2⟩ := turn_idx (j := l) hp
  rw [getD_in (by rw [turnM_len]; exact hlt)]
  simp only [turnM, List.getElem_map, List.getElem_range, e1, e2]
theorem turn_num {P : List Int} {k c : Nat} (h : P.all numB = true) : (turnM P k c).all numB = true := by
  rw [List.all_eq_true]
  intro x hx
  simp only [turnM, List.mem_map] at hx
  obtain ⟨p, _, rfl⟩ := hx
  exact numB_true.2 (num_getD h _)
theorem pick_num {xs : List Int} {c : Nat} {is : List Nat} (h : xs.all numB = true) : (pickR xs c is).all numB = true := by
  rw [List.all_eq_true] at h ⊢
  intro x hx
  simp only [pickR, List.mem_flatMap] at hx
  obtain ⟨i, _, hx⟩ := hx
  exact h x (List.mem_of_mem_drop (List.mem_of_mem_take hx))
def VanS (c : Nat) (xs s : List Int) (q : Vec) : Prop := ∀ i ∈ natsOf s, rowP xs (i * c) c q = 0
theorem ch_rows {n k : Nat} {s : List Int} (h : s ∈ chTo n k) : (natsOf s).length = k ∧ ∀ i ∈ natsOf s, i < n := by
  obtain ⟨h1, h2, -, -⟩ := chTo_mem h
  refine ⟨by simp [natsOf, h1], fun i hi => ?_⟩
  obtain ⟨x, hx, rfl⟩ := List.mem_map.1 hi
  have := h2 x hx
  omega
theorem ker_ch {r c k t : Nat} {xs s ys : List Int} (hx : xs.length = r * c) (hn : xs.all numB = true) (hs : s ∈ chTo r k) (h : kerO c k (turnM (pickR xs c (natsOf s)) k c) = some (ys, t)) :
    Piv c t ys ∧ t ≤ c ∧ ∀ q : Vec, VanS c xs s q ↔ ∃ q', ∀ l, l < c → q l = comb ys c q' l t := by
  obtain ⟨h1, h2⟩ := ch_rows hs
  obtain ⟨a, b, e⟩ := ker_spec turnM_len (turn_num (pick_num hn)) h
  refine ⟨a, b, fun q => Iff.trans ?_ (e q)⟩
  have hc : ∀ p, p < k → comb (turnM (pickR xs c (natsOf s)) k c) k q p c = rowP xs ((natsOf s).getD p 0 * c) c q := fun p hp => by
    rw [comb_sg, rowP]
    refine sg_congr fun i hi => ?_
    rw [turnM_at hp hi, pickR_at hx h2 (by omega) hi, Int.mul_comm]
  constructor
  · intro hv p hp
    rw [hc p hp]
    refine hv _ ?_
    rw [getD_in (by omega)]
    exact List.getElem_mem _
  · intro hv i hi
    obtain ⟨p, hp, rfl⟩ := List.mem_iff_getElem.1 hi
    have := hv p (by omega)
    rw [hc p (by omega), getD_in hp] at this
    exact this
structure OneG (c : Nat) (xs s : List Int) (v : Vec) : Prop where
  van : VanS c xs s v
  nz : ∃ k, k < c ∧ v k ≠ 0
  all : ∀ u, VanS c xs s u → ∃ a : Int, ∀ k, k < c → u k = a * v k
theorem van_mul {c : Nat} {xs s : List Int} {v u : Vec} {a : Int} (h : VanS c xs s v) (e : ∀ k, k < c → u k = a * v k) : VanS c xs s u := fun i hi => by
  rw [rowP_congr (w := mixV a 0 v v) (fun k hk => by rw [e k hk]; simp [mixV]), rowP_lin, h i hi]; omega
theorem neg_all {l : List Int} (h : l.all numB = true) : (l.map fun x => -x).all numB = true := by
  rw [List.all_eq_true] at h ⊢
  intro x hx
  obtain ⟨y, hy, rfl⟩ := List.mem_map.1 hx
  have := numB_true.1 (h y hy)
  exact numB_true.2 (by omega)
theorem vec_neg {l : List Int} (k : Nat) : vecL (l.map fun x => -x) k = -vecL l k := by
  simp only [vecL, List.getD_eq_getElem?_getD, List.getElem?_map]
  cases l[k]? <;> simp
theorem one_ker {r c k : Nat} {xs s ys : List Int} (hx : xs.length = r * c) (hn : xs.all numB = true) (hs : s ∈ chTo r k) (h : kerO c k (turnM (pickR xs c (natsOf s)) k c) = some (ys, 1)) :
    ys.length = c ∧ ys.all numB = true ∧ OneG c xs s (vecL ys) := by
  obtain ⟨hp, h1, h2⟩ := ker_ch hx hn hs h
  have hl : ys.length = c := by have := hp.len; omega
  have hy := hp.yes 0 (by omega)
  rw [Nat.zero_mul, Nat.zero_add] at hy
  refine ⟨hl, hp.num, (h2 _).2 ⟨fun _ => 1, fun l hl => ?_⟩, ⟨_, hy.1, by have := hy.2.1; simp only [vecL]; omega⟩, fun u hu => ?_⟩
  · simp [comb, vecL]
  · obtain ⟨q', hq⟩ := (h2 u).1 hu
    exact ⟨q' 0, fun k hk => by rw [hq k hk]; simp [comb, vecL]⟩
theorem OneG.neg {c : Nat} {xs s : List Int} {v w : Vec} (h : OneG c xs s v) (e : ∀ k, w k = -v k) : OneG c xs s w := by
  refine ⟨van_mul (a := -1) h.van fun k _ => by rw [e]; omega, ?_, fun u hu => ?_⟩
  · obtain ⟨k, hk, h0⟩ := h.nz
    exact ⟨k, hk, by rw [e]; omega⟩
  · obtain ⟨a, ha⟩ := h.all u hu
    exact ⟨-a, fun k hk => by rw [ha k hk, e]; grind⟩
theorem cand_spec {r c : Nat} {xs s : List Int} {a : List (List Int)} (hx : xs.length = r * c) (hn : xs.all numB = true) (hc : 1 ≤ c) (hs : s ∈ chTo r (c - 1)) (h : candO r c xs s = some a) (v : List Int) :
    v ∈ a ↔ v.length = c ∧ OneG c xs s (vecL v) ∧ inConeB r c xs v = true := by
  unfold candO at h
  rw [Option.map_eq_some_iff] at h
  obtain ⟨⟨ys, t⟩, hk, rfl⟩ := h
  dsimp only
  by_cases ht : t = 1
  · subst ht
    obtain ⟨hl, hnum, ho⟩ := one_ker hx hn hs hk
    rw [if_pos rfl, List.mem_filter]
    constructor
    · rintro ⟨h1, h2⟩
      rcases List.mem_cons.1 h1 with rfl | h1
      · exact ⟨hl, ho, h2⟩
      · have := List.mem_singleton.1 h1
        subst this
        exact ⟨by simp [hl], ho.neg fun k => vec_neg k, h2⟩
    · rintro ⟨h1, h2, h3⟩
      refine ⟨?_, h3⟩
      obtain ⟨x, hx'⟩ := ho.all _ h2.van
      obtain ⟨y, hy⟩ := h2.all _ ho.van
      obtain ⟨k, hk0, hne⟩ := ho.nz
      have hxy : x * y = 1 := by
        have e1 : vecL ys k = y * (x * vecL ys k) := by rw [← hx' k hk0]; exact hy k hk0
        have e2 : (x * y - 1) * vecL ys k = 0 := by grind
        rcases Int.mul_eq_zero.1 e2 with e | e
        · omega
        · exact absurd e hne
      have ext : ∀ w : List Int, w.length = c → (∀ k, k < c → vecL v k = vecL w k) → v = w := fun w hw he => by
        apply List.ext_getElem (by omega)
        intro k h4 h5
        have := he k (by omega)
        simp only [vecL] at this
        rw [getD_in h4, getD_in h5] at this
        exact this
      rcases unit_two hxy with e | e
      · rw [ext ys hl fun k hk => by rw [hx' k hk, e]; omega]; simp
      · rw [ext (ys.map fun x => -x) (by simp [hl]) fun k hk => by rw [hx' k hk, e, vec_neg]; omega]; simp
  · rw [if_neg ht]
    constructor
    · intro h; cases h
    · rintro ⟨h1, h2, h3⟩
      exfalso
      obtain ⟨hp, htc, hq⟩ := ker_ch hx hn hs hk
      obtain ⟨k, hk0, hne⟩ := h2.nz
      rcases Nat.lt_or_ge t 1 with e | e
      · obtain ⟨q', h4⟩ := (hq _).1 h2.van
        have : t = 0 := by omega
        subst this
        exact hne (by rw [h4 k hk0]; rfl)
      ·
        have hrow : ∀ i, i < t → VanS c xs s fun l => ys.getD (i * c + l) 0 := fun i hi => (hq _).2 ⟨fun j => if j = i then 1 else 0, fun l _ => by rw [comb_one, if_pos hi]; omega⟩
        obtain ⟨x, hx'⟩ := h2.all _ (hrow 0 (by omega))
        obtain ⟨y, hy'⟩ := h2.all _ (hrow 1 (by omega))
        have p0 := hp.yes 0 (by omega)
        have p1 := hp.yes 1 (by omega)
        have hm := hp.mono 0 1 (by omega) (by omega)
        generalize pivF ys (0 * c) c = P at *
        generalize pivF ys (1 * c) c = Q at *
        have e1 := hx' P p0.1
        have e2 := hy' P p0.1
        have e3 := hy' Q p1.1
        try dsimp only at e1 e2 e3
        rw [p1.2.2 P hm] at e2
        rcases Int.mul_eq_zero.1 e2.symm with e4 | e4
        · rw [e4, Int.zero_mul] at e3
          have := p1.2.1
          omega
        · rw [e4, Int.mul_zero] at e1
          have := p0.2.1
          omega
theorem dotR_row {xs : List Int} {c : Nat} {ys : List Int} {i : Nat} : dotR xs c ys i = rowP xs (i * c) c (vecL ys) := by
  have : ∀ n, prodTo xs (i * c) ys n = sg (fun k => xs.getD (i * c + k) 0 * vecL ys k) n := fun n => by
    induction n with
    | zero => rfl
    | succ n ih => rw [prodTo, sg, ih]; rfl
  exact this c
theorem inCone_iff {r c : Nat} {xs v : List Int} (hC : coneM r c xs = true) : inConeB r c xs v = true ↔ v.length = c ∧ v.all numB = true ∧ InC (fun i => rowP xs (i * c) c) r (vecL v) := by
  simp only [inConeB, hC, Bool.true_and, Bool.and_eq_true, decide_eq_true_eq, Int.toNat_natCast]
  constructor
  · rintro ⟨⟨h1, h2⟩, h3⟩
    exact ⟨by omega, h2, fun i hi => by show 0 ≤ rowP _ _ _ _; rw [← dotR_row]; exact h3 i hi⟩
  · rintro ⟨h1, h2, h3⟩
    exact ⟨⟨by omega, h2⟩, fun i hi => by rw [dotR_row]; exact h3 i hi⟩
theorem cand_zeros {r c : Nat} {xs s : List Int} (hx : xs.length = r * c) (hn : xs.all numB = true) (hc : 1 ≤ c) (h24 : c ≤ 24) (hs : s ∈ chTo r (c - 1)) :
    zerosB ((c - 1 : Nat) : Int) c (pickR xs c (natsOf s)) = kerO c (c - 1) (turnM (pickR xs c (natsOf s)) (c - 1) c) := by
  obtain ⟨h1, h2⟩ := ch_rows hs
  have hl := pickR_len hx h2
  rw [h1] at hl
  have : isM ((c - 1 : Nat) : Int) c (pickR xs c (natsOf s)) = true := by
    rw [isM]
    simp only [Bool.and_eq_true, decide_eq_true_eq]
    exact ⟨⟨by omega, by omega, by omega, by omega, by rw [hl]; simp⟩, pick_num hn⟩
  rw [zerosB, if_pos this]; rfl
theorem nats_of {n k : Nat} {s : List Int} (h : s ∈ chTo n k) : natsI (natsOf s) = s := by
  obtain ⟨-, h2, -, -⟩ := chTo_mem h
  simp only [natsI, natsOf, List.map_map]
  conv => rhs; rw [← List.map_id s]
  refine List.map_congr_left fun x hx => ?_
  have := h2 x hx
  simp only [Function.comp, id]
  show ((x.toNat : Nat) : Int) = x
  omega
theorem candTo_row {r c n : Nat} {xs : List Int} {l : List (List Int)} (hx : xs.length = r * c) (hn : xs.all numB = true) (hC : coneM r c xs = true) (hc : 1 ≤ c) (hle : n ≤ (chTo r (c - 1)).length) (h : candTo r c xs (chTo r (c - 1)) n = some l) : ∀ v ∈ l, v.length = c ∧ v.all numB = true := fun v hv => by
  obtain ⟨j, a, hj, h1, h2⟩ := (candTo_mem h v).1 hv
  have hs : (chTo r (c - 1)).getD j [] ∈ chTo r (c - 1) := by rw [getD_in (show j < (chTo r (c - 1)).length by omega)]; exact List.getElem_mem _
  obtain ⟨e1, -, e3⟩ := (cand_spec hx hn hc hs h1 v).1 h2
  exact ⟨e1, ((inCone_iff hC).1 e3).2.1⟩
theorem cand_row {r c : Nat} {xs : List Int} {l : List (List Int)} (hx : xs.length = r * c) (hn : xs.all numB = true) (hC : coneM r c xs = true) (hc : 1 ≤ c) (h : rawO r c xs = some l) : ∀ v ∈ l, v.length = c ∧ v.all numB = true := candTo_row hx hn hC hc (Nat.le_refl _) h
def toV (q : Vec) : V3 := ⟨q 0, q 1, q 2⟩
theorem dt_row {xs : List Int} {i : Nat} {q : Vec} : dt (toV fun k => xs.getD (i * 3 + k) 0) (toV q) = rowP xs (i * 3) 3 q := by
  simp only [dt, toV, rowP, sg]; omega
theorem OneG.gen3 {r : Nat} {xs v : List Int} {i j : Nat} (hC : coneM r 3 xs = true) (hi : i < r) (hj : j < r) (h : OneG 3 xs [(i : Int), (j : Int)] (vecL v)) (hI : inConeB r 3 xs v = true) : Gen r (fun i => toV fun k => xs.getD (i * 3 + k) 0) i j (toV (vecL v)) := by
  have hv : ∀ q : Vec, VanS 3 xs [(i : Int), (j : Int)] q ↔ rowP xs (i * 3) 3 q = 0 ∧ rowP xs (j * 3) 3 q = 0 := fun q => by
    simp [VanS, natsOf]
  obtain ⟨e1, e2⟩ := (hv _).1 h.van
  refine ⟨fun ⟨a, b, c⟩ => ?_, ⟨hi, hj⟩, by rw [dt_row]; exact e1, by rw [dt_row]; exact e2, fun x h1 h2 => ?_, fun k hk => ?_⟩
  · obtain ⟨k, hk, h0⟩ := h.nz
    have : k = 0 ∨ k = 1 ∨ k = 2 := by omega
    rcases this with rfl | rfl | rfl
    · exact h0 a
    · exact h0 b
    · exact h0 c
  · obtain ⟨x, y, z⟩ := x
    have ex : (⟨x, y, z⟩ : V3) = toV (v3 x y z) := rfl
    rw [ex, dt_row] at h1 h2
    obtain ⟨a, ha⟩ := h.all _ ((hv _).2 ⟨h1, h2⟩)
    refine ⟨a, ?_⟩
    have a0 := ha 0 (by omega)
    have a1 := ha 1 (by omega)
    have a2 := ha 2 (by omega)
    simp only [v3] at a0 a1 a2
    simp only [toV, tim, V3.mk.injEq]
    exact ⟨by simpa using a0, by simpa using a1, by simpa using a2⟩
  · rw [dt_row]
    exact ((inCone_iff hC).1 hI).2.2 k hk
theorem toV_inj {v w : List Int} (h1 : v.length = 3) (h2 : w.length = 3) (h : toV (vecL v) = toV (vecL w)) : v = w := by
  match v, w, h1, h2 with
  | [a, b, c], [d, e, f], _, _ => simpa [toV, vecL] using h
theorem mem_ch2 {n : Nat} {s : List Int} (h : s ∈ chTo n 2) : ∃ i j : Nat, s = [(i : Int), (j : Int)] ∧ i < n ∧ j < n := by
  obtain ⟨h1, h2, -, -⟩ := chTo_mem h
  match s, h1 with
  | [a, b], _ =>
    have ha := h2 a (by simp)
    have hb := h2 b (by simp)
    exact ⟨a.toNat, b.toNat, by simp; omega, by omega, by omega⟩
theorem rays_len {r c : Nat} {xs : List Int} {l : List (List Int)} (hr : r ≤ 8) (hx : xs.length = r * c) (hn : xs.all numB = true) (hC : coneM r c xs = true) (hc : 1 ≤ c) (hc3 : c ≤ 3) (h : rawO r c xs = some l) : (addsL l).length ≤ 24 := by
  have hle : (addsL l).length ≤ 0 + l.length := adds_le l []
  have hl := candTo_len h
  have h0 := chTo_len hr (k := c - 1) (by omega)
  by_cases e : c = 3
  · subst e
    refine Nat.le_trans (adds_groups r (fun i v => ∃ j, Gen r (fun i => toV fun k => xs.getD (i * 3 + k) 0) i j (toV (vecL v)) ∧ v.length = 3) (fun v hv => ?_) fun i hi x y z ⟨a, g1, l1⟩ ⟨b, g2, l2⟩ ⟨d, g3, l3⟩ h1 h2 h3 => ?_) (by omega)
    · obtain ⟨j, a, hj, h1, h2⟩ := (candTo_mem h v).1 hv
      have hs : (chTo r (3 - 1)).getD j [] ∈ chTo r (3 - 1) := by rw [getD_in hj]; exact List.getElem_mem _
      obtain ⟨e1, e2, e3⟩ := (cand_spec hx hn hc hs h1 v).1 h2
      obtain ⟨p, q, hpq, hp, hq⟩ := mem_ch2 hs
      rw [hpq] at e2
      exact ⟨p, hp, q, e2.gen3 hC hp hq e3, e1⟩
    · exact g1.three g2 g3 (fun e => h1 (toV_inj l1 l2 e)) (fun e => h2 (toV_inj l2 l3 e)) (fun e => h3 (toV_inj l1 l3 e))
  · have : (chTo r (c - 1)).length ≤ 8 := by
      by_cases e1 : c - 1 = 0
      · have := h0.2.1 e1; omega
      · exact h0.2.2 (by omega)
    omega
end Go.Proofs.YtfkbjkmlpinoeaaGreat
namespace Go.Proofs.YtfkbjkmlpinoeaaGreat
theorem rowGcd_dvd {xs : List Int} {off : Nat} : ∀ {n k : Nat}, k < n → rowGcd xs off n ∣ xs.getD (off + k) 0
  | n + 1, k, hk => by
    rw [rowGcd]
    by_cases e : k = n
    · subst e; exact Int.gcd_dvd_right _ _
    · exact Int.dvd_trans (Int.gcd_dvd_left _ _) (rowGcd_dvd (by omega))
theorem sgn_zero {xs : List Int} {off : Nat} : ∀ {n : Nat}, sgnTo xs off n = 0 → ∀ k, k < n → xs.getD (off + k) 0 = 0
  | n + 1, h, k, hk => by
    rw [sgnTo] at h
    split at h
    · rename_i h0
      by_cases e : k = n
      · subst e; exact Int.sign_eq_zero_iff_zero.1 h
      · exact sgn_zero h0 k (by omega)
    · rename_i h0; exact absurd h h0
theorem sgn_tri {xs : List Int} {off : Nat} : ∀ n : Nat, sgnTo xs off n = 0 ∨ sgnTo xs off n = 1 ∨ sgnTo xs off n = -1
  | 0 => .inl rfl
  | n + 1 => by
    rw [sgnTo]
    split
    · rcases Int.lt_trichotomy (xs.getD (off + n) 0) 0 with e | e | e
      · right; right; exact Int.sign_eq_neg_one_of_neg e
      · left; rw [e]; rfl
      · right; left; exact Int.sign_eq_one_of_pos e
    · exact sgn_tri n
theorem primAt_char {xs : List Int} {off n : Nat} (hl : off + n ≤ xs.length) : ∃ m : Int, m ≠ 0 ∧ ∀ k, k < n → m * (primAt xs off n).getD (off + k) 0 = xs.getD (off + k) 0 := by
  unfold primAt
  split
  · exact ⟨1, by omega, fun k _ => by omega⟩
  · rename_i hg
    have hs : sgnTo xs off n ≠ 0 := fun e => hg (rowGcd_none (sgn_zero e))
    refine ⟨sgnTo xs off n * rowGcd xs off n, Int.mul_ne_zero hs hg, fun k hk => ?_⟩
    rw [updTo_in hk hl]
    have hd : sgnTo xs off n * rowGcd xs off n ∣ xs.getD (off + k) 0 := by
      have h1 := rowGcd_dvd (xs := xs) (off := off) hk
      rcases sgn_tri (xs := xs) (off := off) n with e | e | e
      · exact absurd e hs
      · rw [e, Int.one_mul]; exact h1
      · rw [e, Int.neg_mul, Int.one_mul]; exact Int.neg_dvd.2 h1
    exact Int.mul_tdiv_cancel_of_dvd hd
theorem primAt_other {xs : List Int} {c i l k : Nat} (h : l ≠ i) (hk : k < c) : (primAt xs (i * c) c).getD (l * c + k) 0 = xs.getD (l * c + k) 0 := by
  have a := row_apart (c := c) h
  unfold primAt
  split
  · rfl
  · exact updTo_at (by omega)
structure ElimD (r c t j n : Nat) (xs ys : List Int) : Prop where
  len : ys.length = xs.length
  same : ∀ i k, k < c → (i = t ∨ n ≤ i) → ys.getD (i * c + k) 0 = xs.getD (i * c + k) 0
  row : ∀ i, i < n → i ≠ t → ∃ m a b : Int, m ≠ 0 ∧ a ≠ 0 ∧ (∀ k, k < c → m * ys.getD (i * c + k) 0 = a * xs.getD (i * c + k) 0 - b * xs.getD (t * c + k) 0) ∧ a * xs.getD (i * c + j) 0 = b * xs.getD (t * c + j) 0
theorem elimRow_char {r c t j i : Nat} {xs ys : List Int} (hx : xs.length = r * c) (hi : i < r) (ht : t < r) (hit : i ≠ t) (hj : j < c) (h0 : xs.getD (t * c + j) 0 ≠ 0) (he : elimRow xs c i t j = some ys) :
    ys.length = xs.length ∧ (∀ l k, k < c → l ≠ i → ys.getD (l * c + k) 0 = xs.getD (l * c + k) 0) ∧ ∃ m a b : Int, m ≠ 0 ∧ a ≠ 0 ∧ (∀ k, k < c → m * ys.getD (i * c + k) 0 = a * xs.getD (i * c + k) 0 - b * xs.getD (t * c + k) 0) ∧ a * xs.getD (i * c + j) 0 = b * xs.getD (t * c + j) 0 := by
  unfold elimRow at he
  split at he
  · rename_i h
    cases he
    have hz := h.resolve_left hit
    exact ⟨rfl, fun _ _ _ _ => rfl, 1, 1, 0, by omega, by omega, fun k _ => by omega, by rw [hz]; omega⟩
  · split at he
    · cases he
      have hin : i * c + c ≤ xs.length := by rw [hx]; exact row_in hi
      have hl2 : (updTo xs (i * c) (elimF xs c i t j) c).length = xs.length := updTo_len
      refine ⟨by rw [primAt_len, hl2], fun l k hk hl => ?_, ?_⟩
      · have a := row_apart (c := c) hl
        rw [primAt_other hl hk]
        exact updTo_at (by omega)
      · obtain ⟨m, hm, hc⟩ := primAt_char (xs := updTo xs (i * c) (elimF xs c i t j) c) (off := i * c) (n := c) (by rw [hl2]; exact hin)
        have hg1 : ((Int.gcd (xs.getD (i * c + j) 0) (xs.getD (t * c + j) 0) : Nat) : Int) ∣ xs.getD (i * c + j) 0 := Int.gcd_dvd_left _ _
        have hg2 : ((Int.gcd (xs.getD (i * c + j) 0) (xs.getD (t * c + j) 0) : Nat) : Int) ∣ xs.getD (t * c + j) 0 := Int.gcd_dvd_right _ _
        have q1 := Int.mul_tdiv_cancel_of_dvd hg1
        have q2 := Int.mul_tdiv_cancel_of_dvd hg2
        refine ⟨m, (xs.getD (t * c + j) 0).tdiv (Int.gcd (xs.getD (i * c + j) 0) (xs.getD (t * c + j) 0)), (xs.getD (i * c + j) 0).tdiv (Int.gcd (xs.getD (i * c + j) 0) (xs.getD (t * c + j) 0)), hm, ?_, fun k hk => ?_, ?_⟩
        · intro e
          rw [e, Int.mul_zero] at q2
          exact h0 q2.symm
        · rw [hc k hk, updTo_in hk hin]; rfl
        · generalize ((Int.gcd (xs.getD (i * c + j) 0) (xs.getD (t * c + j) 0) : Nat) : Int) = g at *
          generalize (xs.getD (i * c + j) 0).tdiv g = A at *
          generalize (xs.getD (t * c + j) 0).tdiv g = B at *
          rw [← q1, ← q2]; grind
    · cases he
theorem elimTo_char {r c t j : Nat} {xs : List Int} (hx : xs.length = r * c) (ht : t < r) (hj : j < c) (h0 : xs.getD (t * c + j) 0 ≠ 0) : ∀ {n : Nat} {ys : List Int}, n ≤ r → elimTo xs c t j n = some ys → ElimD r c t j n xs ys
  | 0, ys, _, he => by
    cases he
    exact ⟨rfl, fun _ _ _ _ => rfl, fun i hi => by omega⟩
  | n + 1, ys, hn, he => by
    rw [elimTo, Option.bind_eq_some_iff] at he
    obtain ⟨zs, h1, h2⟩ := he
    have ih := elimTo_char hx ht hj h0 (by omega) h1
    by_cases hnt : n = t
    · subst hnt
      have hy : zs = ys := by
        unfold elimRow at h2
        rw [if_pos (.inl rfl)] at h2
        cases h2; rfl
      subst hy
      exact ⟨ih.len, fun i k hk h => ih.same i k hk (by omega), fun i hi hit => ih.row i (by omega) hit⟩
    · have hzt : zs.getD (t * c + j) 0 ≠ 0 := by rw [ih.same t j hj (.inl rfl)]; exact h0
      obtain ⟨e1, e2, m, a, b, hm, ha, e3, e4⟩ := elimRow_char (by rw [ih.len]; exact hx) (by omega) ht hnt hj hzt h2
      refine ⟨e1.trans ih.len, fun i k hk h => ?_, fun i hi hit => ?_⟩
      · rw [e2 i k hk (by omega)]
        exact ih.same i k hk (by omega)
      · by_cases hin : i = n
        · subst hin
          refine ⟨m, a, b, hm, ha, fun k hk => ?_, ?_⟩
          · rw [e3 k hk, ih.same i k hk (by omega), ih.same t k hk (.inl rfl)]
          · rw [ih.same i j hj (by omega), ih.same t j hj (.inl rfl)] at e4
            exact e4
        · obtain ⟨m', a', b', hm', ha', e5, e6⟩ := ih.row i (by omega) hit
          exact ⟨m', a', b', hm', ha', fun k hk => by rw [e2 i k hk hin]; exact e5 k hk, e6⟩
theorem ElimD.ker {r c t j : Nat} {xs ys : List Int} (h : ElimD r c t j r xs ys) (ht : t < r) (q : Vec) : KerX r c ys q ↔ KerX r c xs q := by
  have e0 : rowP ys (t * c) c q = rowP xs (t * c) c q := rowP_cells fun k hk => h.same t k hk (.inl rfl)
  have e1 : ∀ i, i < r → i ≠ t → ∃ m a b : Int, m ≠ 0 ∧ a ≠ 0 ∧ m * rowP ys (i * c) c q = a * rowP xs (i * c) c q - b * rowP xs (t * c) c q := fun i hi hit => by
    obtain ⟨m, a, b, hm, ha, e, -⟩ := h.row i hi hit
    refine ⟨m, a, b, hm, ha, ?_⟩
    unfold rowP
    rw [← sg_mul, ← sg_mul, Int.sub_eq_add_neg, ← Int.neg_mul, ← sg_mul, ← sg_add]
    refine sg_congr fun k hk => ?_
    have := e k hk
    generalize ys.getD (i * c + k) 0 = A at *
    generalize xs.getD (i * c + k) 0 = B at *
    generalize xs.getD (t * c + k) 0 = D at *
    have : m * (A * q k) = (m * A) * q k := by grind
    rw [this, ‹m * A = _›]; grind
  constructor
  · intro hk i hi
    have ht0 := hk t ht
    rw [e0] at ht0
    by_cases hit : i = t
    · subst hit; exact ht0
    · obtain ⟨m, a, b, hm, ha, e⟩ := e1 i hi hit
      rw [hk i hi, ht0] at e
      have : a * rowP xs (i * c) c q = 0 := by omega
      exact (Int.mul_eq_zero.1 this).resolve_left ha
  · intro hk i hi
    by_cases hit : i = t
    · subst hit; rw [e0]; exact hk i hi
    · obtain ⟨m, a, b, hm, ha, e⟩ := e1 i hi hit
      rw [hk i hi, hk t ht] at e
      have : m * rowP ys (i * c) c q = 0 := by omega
      exact (Int.mul_eq_zero.1 this).resolve_left hm
theorem swap_ker {r c p t : Nat} {xs : List Int} (hx : xs.length = r * c) (hp : p < r) (ht : t < r) (hne : p ≠ t) (q : Vec) : KerX r c (swapTo xs (p * c) (t * c) c) q ↔ KerX r c xs q := by
  have e : ∀ i, rowP (swapTo xs (p * c) (t * c) c) (i * c) c q = if i = p then rowP xs (t * c) c q else if i = t then rowP xs (p * c) c q else rowP xs (i * c) c q := fun i => by
    by_cases h1 : i = p
    · rw [if_pos h1]
      exact sg_congr fun k hk => by rw [swap_cell hx hp ht hne hk, if_pos h1]
    · rw [if_neg h1]
      by_cases h2 : i = t
      · rw [if_pos h2]
        exact sg_congr fun k hk => by rw [swap_cell hx hp ht hne hk, if_neg h1, if_pos h2]
      · rw [if_neg h2]
        exact sg_congr fun k hk => by rw [swap_cell hx hp ht hne hk, if_neg h1, if_neg h2]
  constructor
  · intro h i hi
    by_cases h1 : i = p
    · have := h t ht
      rw [e, if_neg (Ne.symm hne), if_pos rfl] at this
      rw [h1]; exact this
    · by_cases h2 : i = t
      · have := h p hp
        rw [e, if_pos rfl] at this
        rw [h2]; exact this
      · have := h i hi
        rw [e, if_neg h1, if_neg h2] at this
        exact this
  · intro h i hi
    rw [e]
    split
    · exact h t ht
    · split
      · exact h p hp
      · exact h i hi
theorem prim_ker {r c i : Nat} {xs : List Int} (hx : xs.length = r * c) (hi : i < r) (q : Vec) : KerX r c (primAt xs (i * c) c) q ↔ KerX r c xs q := by
  obtain ⟨m, hm, hc⟩ := primAt_char (xs := xs) (off := i * c) (n := c) (by rw [hx]; exact row_in hi)
  have e1 : m * rowP (primAt xs (i * c) c) (i * c) c q = rowP xs (i * c) c q := by
    unfold rowP
    rw [← sg_mul]
    refine sg_congr fun k hk => ?_
    rw [← hc k hk]; grind
  have e2 : ∀ l, l ≠ i → rowP (primAt xs (i * c) c) (l * c) c q = rowP xs (l * c) c q := fun l hl => rowP_cells fun k hk => primAt_other hl hk
  constructor
  · intro h l hl
    by_cases e : l = i
    · subst e; rw [← e1, h l hl, Int.mul_zero]
    · rw [← e2 l e]; exact h l hl
  · intro h l hl
    by_cases e : l = i
    · subst e
      rw [h l hl] at e1
      exact (Int.mul_eq_zero.1 e1).resolve_left hm
    · rw [e2 l e]; exact h l hl
theorem primAll_ker {r c : Nat} {xs : List Int} (hx : xs.length = r * c) (hn : xs.all numB = true) (q : Vec) : ∀ {n : Nat}, n ≤ r → (KerX r c (primAll xs c n) q ↔ KerX r c xs q)
  | 0, _ => Iff.rfl
  | n + 1, h => by
    rw [primAll]
    exact (prim_ker (by rw [(primAll_ok hn n).2]; exact hx) (by omega) q).trans (primAll_ker hx hn q (by omega))
theorem findP_spec (xs : List Int) (c j r : Nat) : ∀ m t, r - t ≤ m → t ≤ r → (findP xs c j r t < r → t ≤ findP xs c j r t ∧ xs.getD (findP xs c j r t * c + j) 0 ≠ 0) ∧ (¬ findP xs c j r t < r → ∀ i, t ≤ i → i < r → xs.getD (i * c + j) 0 = 0) := fun m => by
  induction m with
  | zero =>
    intro t h1 h2
    rw [findP, if_neg (by omega)]
    exact ⟨fun h => by omega, fun _ i h3 h4 => by omega⟩
  | succ m ih =>
    intro t h1 h2
    rw [findP]
    split
    · split
      · rename_i h3 h4
        obtain ⟨a, b⟩ := ih (t + 1) (by omega) (by omega)
        refine ⟨fun h => ⟨by have := (a h).1; omega, (a h).2⟩, fun h i h5 h6 => ?_⟩
        by_cases e : i = t
        · subst e; exact h4
        · exact b h i (by omega) h6
      · rename_i h3 h4
        exact ⟨fun _ => ⟨Nat.le_refl _, h4⟩, fun h => absurd h3 h⟩
    · exact ⟨fun h => by omega, fun _ i h3 h4 => by omega⟩
structure GJ (r c j t : Nat) (xs : List Int) (pv : Nat → Nat) : Prop where
  len : xs.length = r * c
  tr : t ≤ r
  lt : ∀ i, i < t → pv i < j
  nz : ∀ i, i < t → xs.getD (i * c + pv i) 0 ≠ 0
  off : ∀ i l, i < t → l < r → l ≠ i → xs.getD (l * c + pv i) 0 = 0
  mono : ∀ i l, i < l → l < t → pv i < pv l
  zero : ∀ i k, t ≤ i → i < r → k < j → xs.getD (i * c + k) 0 = 0
theorem GJ.elim {r c j t : Nat} {xs ys : List Int} {pv : Nat → Nat} (h : GJ r c j t xs pv) (ht : t < r) (hj : j < c) (h0 : xs.getD (t * c + j) 0 ≠ 0) (he : ElimD r c t j r xs ys) : GJ r c (j + 1) (t + 1) ys (fun i => if i = t then j else pv i) := by
  have z : ∀ l k, l < r → k < c → xs.getD (l * c + k) 0 = 0 → xs.getD (t * c + k) 0 = 0 → ys.getD (l * c + k) 0 = 0 := fun l k hl hk e1 e2 => by
    by_cases hlt : l = t
    · rw [he.same l k hk (.inl hlt)]; exact e1
    · obtain ⟨m, a, b, hm, ha, e3, -⟩ := he.row l hl hlt
      have := e3 k hk
      rw [e1, e2, Int.mul_zero, Int.mul_zero] at this
      exact (Int.mul_eq_zero.1 (by omega)).resolve_left hm
  have zj : ∀ l, l < r → l ≠ t → ys.getD (l * c + j) 0 = 0 := fun l hl hlt => by
    obtain ⟨m, a, b, hm, ha, e3, e4⟩ := he.row l hl hlt
    have := e3 j hj
    exact (Int.mul_eq_zero.1 (by omega)).resolve_left hm
  refine ⟨he.len.trans h.len, ht, fun i hi => ?_, fun i hi => ?_, fun i l hi hl hli => ?_, fun i l hil hl => ?_, fun i k hi hir hk => ?_⟩
  · try dsimp only
    split
    · omega
    · have := h.lt i (by omega); omega
  · try dsimp only
    split
    · rename_i e
      rw [e, he.same t j hj (.inl rfl)]; exact h0
    · rename_i e
      obtain ⟨m, a, b, hm, ha, e3, -⟩ := he.row i (by omega) e
      have hp := h.lt i (by omega)
      intro c0
      have := e3 (pv i) (by omega)
      rw [c0, h.off i t (by omega) ht (Ne.symm e), Int.mul_zero, Int.mul_zero, Int.sub_zero] at this
      exact h.nz i (by omega) ((Int.mul_eq_zero.1 this.symm).resolve_left ha)
  · try dsimp only
    split
    · rename_i e
      exact zj l hl (by omega)
    · rename_i e
      have hp := h.lt i (by omega)
      exact z l (pv i) hl (by omega) (h.off i l (by omega) hl hli) (h.off i t (by omega) ht (Ne.symm e))
  · try dsimp only
    rw [if_neg (by omega)]
    split
    · exact h.lt i (by omega)
    · exact h.mono i l hil (by omega)
  · by_cases e : k = j
    · subst e; exact zj i hir (by omega)
    · exact z i k hir (by omega) (h.zero i k (by omega) hir (by omega)) (h.zero t k (Nat.le_refl _) ht (by omega))
theorem GJ.swap {r c j t p : Nat} {xs : List Int} {pv : Nat → Nat} (h : GJ r c j t xs pv) (ht : t < r) (hp : p < r) (htp : t ≤ p) (hne : p ≠ t) (hj : j ≤ c) : GJ r c j t (swapTo xs (p * c) (t * c) c) pv := by
  have e : ∀ i k, k < c → i < t → (swapTo xs (p * c) (t * c) c).getD (i * c + k) 0 = xs.getD (i * c + k) 0 := fun i k hk hi => by
    rw [swap_cell h.len hp ht hne hk, if_neg (by omega), if_neg (by omega)]
  refine ⟨by rw [swapTo_len]; exact h.len, h.tr, h.lt, fun i hi => ?_, fun i l hi hl hli => ?_, h.mono, fun i k hi hir hk => ?_⟩
  · rw [e i _ (by have := h.lt i hi; omega) hi]; exact h.nz i hi
  · have := h.lt i hi
    rw [swap_cell h.len hp ht hne (by omega)]
    split
    · exact h.off i t hi ht (by omega)
    · split
      · exact h.off i p hi hp (by omega)
      · exact h.off i l hi hl hli
  · rw [swap_cell h.len hp ht hne (by omega)]
    split
    · exact h.zero t k (Nat.le_refl _) ht hk
    · split
      · exact h.zero p k htp hp hk
      · exact h.zero i k hi hir hk
theorem echTo_char {r c : Nat} {xs : List Int} (hx : xs.length = r * c) (hn : xs.all numB = true) : ∀ {j : Nat} {s : List Int × Nat}, j ≤ c → echTo xs r c j = some s → (∃ pv, GJ r c j s.2 s.1 pv) ∧ ∀ q, KerX r c s.1 q ↔ KerX r c xs q
  | 0, s, _, he => by
    cases he
    refine ⟨⟨fun _ => 0, by rw [(primAll_ok hn r).2]; exact hx, Nat.zero_le _, fun i hi => by omega, fun i hi => by omega, fun i l hi => by omega, fun i l _ hl => by omega, fun i k _ _ hk => by omega⟩, fun q => primAll_ker hx hn q (Nat.le_refl _)⟩
  | j + 1, s, hj, he => by
    rw [echTo, Option.bind_eq_some_iff] at he
    obtain ⟨⟨ys, t⟩, h1, h2⟩ := he
    obtain ⟨⟨pv, hg⟩, hk⟩ := echTo_char hx hn (by omega) h1
    dsimp only at hg hk
    obtain ⟨f1, f2⟩ := findP_spec ys c j r r t (by omega) hg.tr
    unfold colStep at h2
    dsimp only at h2
    split at h2
    · rename_i hp
      obtain ⟨g1, g2⟩ := f1 hp
      generalize findP ys c j r t = p at *
      rw [Option.map_eq_some_iff] at h2
      obtain ⟨zs, h3, rfl⟩ := h2
      dsimp only
      have ht : t < r := by omega
      by_cases hpt : p = t
      · rw [if_pos hpt] at h3
        subst hpt
        have hE := elimTo_char hg.len ht (by omega) g2 (Nat.le_refl _) h3
        exact ⟨⟨_, hg.elim ht (by omega) g2 hE⟩, fun q => (hE.ker ht q).trans (hk q)⟩
      · rw [if_neg hpt] at h3
        have hs := hg.swap ht hp g1 hpt (by omega)
        have h0 : (swapTo ys (p * c) (t * c) c).getD (t * c + j) 0 ≠ 0 := by
          rw [swap_cell hg.len hp ht hpt (by omega), if_neg (by omega), if_pos rfl]; exact g2
        have hE := elimTo_char hs.len ht (by omega) h0 (Nat.le_refl _) h3
        exact ⟨⟨_, hs.elim ht (by omega) h0 hE⟩, fun q => (hE.ker ht q).trans ((swap_ker hg.len hp ht hpt q).trans (hk q))⟩
    · rename_i hp
      cases h2
      refine ⟨⟨pv, hg.len, hg.tr, fun i hi => by have := hg.lt i hi; omega, hg.nz, hg.off, hg.mono, fun i k hi hir hk => ?_⟩, hk⟩
      by_cases e : k = j
      · subst e; exact f2 hp i hi hir
      · exact hg.zero i k hi hir (by omega)
theorem GJ.piv {r c t : Nat} {xs : List Int} {pv : Nat → Nat} (h : GJ r c c t xs pv) : ∀ i, i < t → i ≤ pv i ∧ pv i + (t - i) ≤ c := fun i => by
  have low : ∀ i, i < t → i ≤ pv i := fun i => by
    induction i with
    | zero => intro _; omega
    | succ i ih => intro hi; have := ih (by omega); have := h.mono i (i + 1) (by omega) hi; omega
  have up : ∀ n i, i + n + 1 = t → pv i + (t - i) ≤ c := fun n => by
    induction n with
    | zero => intro i hi; have := h.lt i (by omega); omega
    | succ n ih => intro i hi; have := ih (i + 1) (by omega); have := h.mono i (i + 1) (by omega) (by omega); omega
  intro hi
  exact ⟨low i hi, up (t - i - 1) i (by omega)⟩
theorem rank_ker0 {r c : Nat} {xs : List Int} (hx : xs.length = r * c) (hn : xs.all numB = true) (h : rankO xs r c = some c) (q : Vec) (hq : KerX r c xs q) : ∀ k, k < c → q k = 0 := by
  unfold rankO at h
  rw [Option.map_eq_some_iff] at h
  obtain ⟨s, h1, h2⟩ := h
  obtain ⟨⟨pv, hg⟩, hk⟩ := echTo_char hx hn (Nat.le_refl _) h1
  obtain ⟨ys, t⟩ := s
  dsimp only at hg hk h2
  subst h2
  have hp : ∀ i, i < t → pv i = i := fun i hi => by have := hg.piv i hi; omega
  intro k hkt
  have h3 := (hk q).2 hq k (by have := hg.tr; omega)
  unfold rowP at h3
  rw [sg_single (p := k) hkt fun l hl hne => by
    have h4 := hg.off l k hl (by have := hg.tr; omega) (Ne.symm hne)
    rw [hp l hl] at h4
    rw [h4, Int.zero_mul]] at h3
  have h5 := hg.nz k hkt
  rw [hp k hkt] at h5
  exact (Int.mul_eq_zero.1 h3).resolve_left h5
theorem rank_le {r c t : Nat} {xs : List Int} (hx : xs.length = r * c) (hn : xs.all numB = true) (h : rankO xs r c = some t) : t ≤ c := by
  unfold rankO at h
  rw [Option.map_eq_some_iff] at h
  obtain ⟨s, h1, h2⟩ := h
  obtain ⟨⟨pv, hg⟩, -⟩ := echTo_char hx hn (Nat.le_refl _) h1
  rw [h2] at hg
  rcases Nat.eq_zero_or_pos t with e | e
  · omega
  · have := hg.piv 0 e; omega
theorem sq0R {a : Int} (h : a * a = 0) : a = 0 := by rcases Int.mul_eq_zero.1 h with e | e <;> exact e
theorem rank_low {r c t : Nat} {xs : List Int} (hx : xs.length = r * c) (hn : xs.all numB = true) (hc : c ≤ 3) (h : rankO xs r c = some t) (ht : t + 2 ≤ c) : ∃ p q, KerX r c xs p ∧ KerX r c xs q ∧ ¬ parN c p q := by
  unfold rankO at h
  rw [Option.map_eq_some_iff] at h
  obtain ⟨s, h1, h2⟩ := h
  obtain ⟨⟨pv, hg⟩, hk⟩ := echTo_char hx hn (Nat.le_refl _) h1
  obtain ⟨ys, t'⟩ := s
  dsimp only at hg hk h2
  subst h2
  have hz : ∀ i q, t' ≤ i → i < r → rowP ys (i * c) c q = 0 := fun i q hi hir => sg_zero fun k hk => by rw [hg.zero i k hi hir hk, Int.zero_mul]
  rcases Nat.eq_zero_or_pos t' with e | e
  · refine ⟨v3 1 0 0, v3 0 1 0, (hk _).1 fun i hi => hz i _ (by omega) hi, (hk _).1 fun i hi => hz i _ (by omega) hi, fun hp => ?_⟩
    have := hp 0 1 (by omega) (by omega)
    simp [v3] at this
  · have e1 : t' = 1 := by omega
    have e3 : c = 3 := by omega
    subst e1 e3
    have hker : ∀ q : Vec, ys.getD 0 0 * q 0 + ys.getD 1 0 * q 1 + ys.getD 2 0 * q 2 = 0 → KerX r 3 ys q := fun q hq i hi => by
      rcases Nat.eq_zero_or_pos i with e | e
      · subst e
        simp only [rowP, sg, Nat.zero_mul, Nat.zero_add]
        omega
      · exact hz i q (by omega) hi
    have hnz := hg.nz 0 (by omega)
    have hp := hg.lt 0 (by omega)
    rw [Nat.zero_mul, Nat.zero_add] at hnz
    generalize hX : ys.getD 0 0 = X at *
    generalize hY : ys.getD 1 0 = Y at *
    generalize hZ : ys.getD 2 0 = Z at *
    obtain ⟨p0, hp0⟩ : ∃ p, pv 0 = p := ⟨_, rfl⟩
    rw [hp0] at hnz hp
    have h012 : p0 = 0 ∨ p0 = 1 ∨ p0 = 2 := by omega
    rcases h012 with rfl | rfl | rfl
    · rw [hX] at hnz
      refine ⟨v3 Y (-X) 0, v3 Z 0 (-X), (hk _).1 (hker _ (by simp only [v3]; grind)), (hk _).1 (hker _ (by simp only [v3]; grind)), fun hp => hnz ?_⟩
      have := hp 1 2 (by omega) (by omega)
      simp only [v3, Nat.one_ne_zero, if_true, if_false, reduceIte, show ¬ ((2 : Nat) = 0) by omega, show ¬ ((2 : Nat) = 1) by omega] at this
      exact sq0R (by grind)
    · rw [hY] at hnz
      refine ⟨v3 Y (-X) 0, v3 0 Z (-Y), (hk _).1 (hker _ (by simp only [v3]; grind)), (hk _).1 (hker _ (by simp only [v3]; grind)), fun hp => hnz ?_⟩
      have := hp 0 2 (by omega) (by omega)
      simp only [v3, Nat.one_ne_zero, if_true, if_false, reduceIte, show ¬ ((2 : Nat) = 0) by omega, show ¬ ((2 : Nat) = 1) by omega] at this
      exact sq0R (by grind)
    · rw [hZ] at hnz
      refine ⟨v3 Z 0 (-X), v3 0 Z (-Y), (hk _).1 (hker _ (by simp only [v3]; grind)), (hk _).1 (hker _ (by simp only [v3]; grind)), fun hp => hnz ?_⟩
      have := hp 0 1 (by omega) (by omega)
      simp only [v3, Nat.one_ne_zero, if_true, if_false, reduceIte, show ¬ ((2 : Nat) = 0) by omega, show ¬ ((2 : Nat) = 1) by omega] at this
      exact sq0R (by grind)
end Go.Proofs.YtfkbjkmlpinoeaaGreat
