/-
  TEXTS OF THE PROOF, put together: pRays, Am12, bChoose, Lay1.
-/
import Derived.Test.YtfkbjkmlpinoeaaGreatH19
import Derived.Test.YtfkbjkmlpinoeaaGreatH20
import Derived.Test.YtfkbjkmlpinoeaaGreatH21
import Derived.Test.YtfkbjkmlpinoeaaGreatH22
import Derived.Test.YtfkbjkmlpinoeaaGreatH23
import Derived.Test.YtfkbjkmlpinoeaaGreatH11
import Derived.Shelf.SlSortCmp.Whole1
import Derived.Test.YtfkbjkmlpinoeaaGreatProg
set_option linter.unusedVariables false
set_option linter.unusedSimpArgs false
namespace Go.Proofs.YtfkbjkmlpinoeaaGreat
def natsOf (s : List Int) : List Nat := s.map Int.toNat
def vecL (v : List Int) : Vec := fun k => v.getD k 0
def candO (r c : Nat) (xs s : List Int) : Option (List (List Int)) :=
  (kerO c (c - 1) (turnM (pickR xs c (natsOf s)) (c - 1) c)).map fun st => if st.2 = 1 then ([st.1, st.1.map fun x => -x]).filter fun v => inConeB r c xs v else []
def candTo (r c : Nat) (xs : List Int) (L : List (List Int)) : Nat → Option (List (List Int))
  | 0 => some []
  | n + 1 => (candTo r c xs L n).bind fun a => (candO r c xs (L.getD n [])).map fun b => a ++ b
def rawO (r c : Nat) (xs : List Int) : Option (List (List Int)) := candTo r c xs (chTo r (c - 1)) (chTo r (c - 1)).length
def raysO (r c : Int) (xs : List Int) : Option (List (List Int)) := if pointB r c xs then (rawO r.toNat c.toNat xs).map addsL else none
theorem candTo_mem {r c : Nat} {xs : List Int} {L : List (List Int)} : ∀ {n : Nat} {l : List (List Int)}, candTo r c xs L n = some l → ∀ v, v ∈ l ↔ ∃ j a, j < n ∧ candO r c xs (L.getD j []) = some a ∧ v ∈ a
  | 0, l, h, v => by
    cases h
    constructor
    · intro h; cases h
    · rintro ⟨j, a, hj, _⟩; omega
  | n + 1, l, h, v => by
    rw [candTo, Option.bind_eq_some_iff] at h
    obtain ⟨a, h1, h2⟩ := h
    rw [Option.map_eq_some_iff] at h2
    obtain ⟨b, h3, rfl⟩ := h2
    rw [List.mem_append, candTo_mem h1]
    constructor
    · rintro (⟨j, a', hj, e1, e2⟩ | h)
      · exact ⟨j, a', by omega, e1, e2⟩
      · exact ⟨n, b, by omega, h3, h⟩
    · rintro ⟨j, a', hj, e1, e2⟩
      by_cases e : j = n
      · subst e
        rw [h3] at e1; cases e1
        exact .inr e2
      · exact .inl ⟨j, a', by omega, e1, e2⟩
theorem candTo_all {r c : Nat} {xs : List Int} {L : List (List Int)} : ∀ {n : Nat} {l : List (List Int)}, candTo r c xs L n = some l → ∀ j, j < n → ∃ a, candO r c xs (L.getD j []) = some a
  | 0, _, _, j, hj => by omega
  | n + 1, l, h, j, hj => by
    rw [candTo, Option.bind_eq_some_iff] at h
    obtain ⟨a, h1, h2⟩ := h
    rw [Option.map_eq_some_iff] at h2
    obtain ⟨b, h3, rfl⟩ := h2
    by_cases e : j = n
    · subst e; exact ⟨b, h3⟩
    · exact candTo_all h1 j (by omega)
theorem candTo_none {r c : Nat} {xs : List Int} {L : List (List Int)} {n : Nat} (h : candTo r c xs L n = none) : ∀ m, candTo r c xs L (n + m) = none
  | 0 => h
  | m + 1 => by rw [← Nat.add_assoc, candTo, candTo_none h m]; rfl
theorem candO_len {r c : Nat} {xs s : List Int} {a : List (List Int)} (h : candO r c xs s = some a) : a.length ≤ 2 := by
  unfold candO at h
  rw [Option.map_eq_some_iff] at h
  obtain ⟨st, _, rfl⟩ := h
  split
  · exact Nat.le_trans (List.length_filter_le _ _) (by simp)
  · simp
theorem candTo_len {r c : Nat} {xs : List Int} {L : List (List Int)} : ∀ {n : Nat} {l : List (List Int)}, candTo r c xs L n = some l → l.length ≤ 2 * n
  | 0, l, h => by cases h; simp
  | n + 1, l, h => by
    rw [candTo, Option.bind_eq_some_iff] at h
    obtain ⟨a, h1, h2⟩ := h
    rw [Option.map_eq_some_iff] at h2
    obtain ⟨b, h3, rfl⟩ := h2
    have := candTo_len h1
    have := candO_len h3
    rw [List.length_append]; omega
theorem adds_le : ∀ (l acc : List (List Int)), (l.foldl addL acc).length ≤ acc.length + l.length
  | [], acc => by simp
  | x :: l, acc => by
    have h1 := adds_le l (addL acc x)
    have h2 := addL_len acc x
    rw [List.foldl_cons, List.length_cons]; omega
theorem pickR_at {xs : List Int} {r c : Nat} (hx : xs.length = r * c) : ∀ {is : List Nat} {p l : Nat}, (∀ i ∈ is, i < r) → p < is.length → l < c → (pickR xs c is).getD (p * c + l) 0 = xs.getD (is.getD p 0 * c + l) 0
  | [], p, _, _, hp, _ => by simp at hp
  | i :: is, p, l, h, hp, hl => by
    have h1 := row_in (c := c) (h i (by simp))
    have hlen : ((xs.drop (i * c)).take c).length = c := by rw [List.length_take, List.length_drop, hx]; omega
    rw [pickR, List.flatMap_cons]
    cases p with
    | zero =>
      rw [getD_appL (by rw [hlen]; omega), Nat.zero_mul, Nat.zero_add, take_getD hl]
      simp only [List.getD_eq_getElem?_getD, List.getElem?_drop, List.getD_cons_zero]
      rfl
    | succ p =>
      rw [getD_appR (by rw [hlen, Nat.succ_mul]; omega), hlen, show (p + 1) * c + l - c = p * c + l by rw [Nat.succ_mul]; omega]
      have := pickR_at hx (is := is) (p := p) (l := l) (fun j hj => h j (by simp [hj])) (by simpa using hp) hl
      rw [pickR] at this
      rw [this, List.getD_cons_succ]
theorem turnM_at {P : List Int} {k c p l : Nat} (hp : p < k) (hl : l < c) : (turnM P k c).getD (l * k + p) 0 = P.getD (p * c + l) 0 := by
  have hlt : l * k + p < c * k := cell_lt hl hp
  obtain ⟨e1, e2⟩ := turn_idx (j := l) hp
  rw [getD_in (by rw [turnM_len]; exact hlt)]
  simp only [turnM, List.getElem_map, List.getElem_range, e1, e2]
theorem turn_num {P : List Int} {k c : Nat} (h : P.all numB = true) : (turnM P k c).all numB = true := by
  rw [List.all_eq_true]
  intro x hx
  simp only [turnM, List.mem_map] at hx
  obtain ⟨p, _, rfl⟩ := hx
  exact numB_true.2 (num_getD h _)
theorem pick_num {xs : List Int} {c : Nat} {is : List Nat} (h : xs.all numB = true) : (pickR xs c is).all numB = true := by
  rw [List.all_eq_true] at h ⊢
  intro x hx
  simp only [pickR, List.mem_flatMap] at hx
  obtain ⟨i, _, hx⟩ := hx
  exact h x (List.mem_of_mem_drop (List.mem_of_mem_take hx))
def VanS (c : Nat) (xs s : List Int) (q : Vec) : Prop := ∀ i ∈ natsOf s, rowP xs (i * c) c q = 0
theorem ch_rows {n k : Nat} {s : List Int} (h : s ∈ chTo n k) : (natsOf s).length = k ∧ ∀ i ∈ natsOf s, i < n := by
  obtain ⟨h1, h2, -, -⟩ := chTo_mem h
  refine ⟨by simp [natsOf, h1], fun i hi => ?_⟩
  obtain ⟨x, hx, rfl⟩ := List.mem_map.1 hi
  have := h2 x hx
  omega
theorem ker_ch {r c k t : Nat} {xs s ys : List Int} (hx : xs.length = r * c) (hn : xs.all numB = true) (hs : s ∈ chTo r k) (h : kerO c k (turnM (pickR xs c (natsOf s)) k c) = some (ys, t)) :
    Piv c t ys ∧ t ≤ c ∧ ∀ q : Vec, VanS c xs s q ↔ ∃ q', ∀ l, l < c → q l = comb ys c q' l t := by
  obtain ⟨h1, h2⟩ := ch_rows hs
  obtain ⟨a, b, e⟩ := ker_spec turnM_len (turn_num (pick_num hn)) h
  refine ⟨a, b, fun q => Iff.trans ?_ (e q)⟩
  have hc : ∀ p, p < k → comb (turnM (pickR xs c (natsOf s)) k c) k q p c = rowP xs ((natsOf s).getD p 0 * c) c q := fun p hp => by
    rw [comb_sg, rowP]
    refine sg_congr fun i hi => ?_
    rw [turnM_at hp hi, pickR_at hx h2 (by omega) hi, Int.mul_comm]
  constructor
  · intro hv p hp
    rw [hc p hp]
    refine hv _ ?_
    rw [getD_in (by omega)]
    exact List.getElem_mem _
  · intro hv i hi
    obtain ⟨p, hp, rfl⟩ := List.mem_iff_getElem.1 hi
    have := hv p (by omega)
    rw [hc p (by omega), getD_in hp] at this
    exact this
structure OneG (c : Nat) (xs s : List Int) (v : Vec) : Prop where
  van : VanS c xs s v
  nz : ∃ k, k < c ∧ v k ≠ 0
  all : ∀ u, VanS c xs s u → ∃ a : Int, ∀ k, k < c → u k = a * v k
theorem van_mul {c : Nat} {xs s : List Int} {v u : Vec} {a : Int} (h : VanS c xs s v) (e : ∀ k, k < c → u k = a * v k) : VanS c xs s u := fun i hi => by
  rw [rowP_congr (w := mixV a 0 v v) (fun k hk => by rw [e k hk]; simp [mixV]), rowP_lin, h i hi]; omega
theorem neg_all {l : List Int} (h : l.all numB = true) : (l.map fun x => -x).all numB = true := by
  rw [List.all_eq_true] at h ⊢
  intro x hx
  obtain ⟨y, hy, rfl⟩ := List.mem_map.1 hx
  have := numB_true.1 (h y hy)
  exact numB_true.2 (by omega)
theorem vec_neg {l : List Int} (k : Nat) : vecL (l.map fun x => -x) k = -vecL l k := by
  simp only [vecL, List.getD_eq_getElem?_getD, List.getElem?_map]
  cases l[k]? <;> simp
theorem one_ker {r c k : Nat} {xs s ys : List Int} (hx : xs.length = r * c) (hn : xs.all numB = true) (hs : s ∈ chTo r k) (h : kerO c k (turnM (pickR xs c (natsOf s)) k c) = some (ys, 1)) :
    ys.length = c ∧ ys.all numB = true ∧ OneG c xs s (vecL ys) := by
  obtain ⟨hp, h1, h2⟩ := ker_ch hx hn hs h
  have hl : ys.length = c := by have := hp.len; omega
  have hy := hp.yes 0 (by omega)
  rw [Nat.zero_mul, Nat.zero_add] at hy
  refine ⟨hl, hp.num, (h2 _).2 ⟨fun _ => 1, fun l hl => ?_⟩, ⟨_, hy.1, by have := hy.2.1; simp only [vecL]; omega⟩, fun u hu => ?_⟩
  · simp [comb, vecL]
  · obtain ⟨q', hq⟩ := (h2 u).1 hu
    exact ⟨q' 0, fun k hk => by rw [hq k hk]; simp [comb, vecL]⟩
theorem OneG.neg {c : Nat} {xs s : List Int} {v w : Vec} (h : OneG c xs s v) (e : ∀ k, w k = -v k) : OneG c xs s w := by
  refine ⟨van_mul (a := -1) h.van fun k _ => by rw [e]; omega, ?_, fun u hu => ?_⟩
  · obtain ⟨k, hk, h0⟩ := h.nz
    exact ⟨k, hk, by rw [e]; omega⟩
  · obtain ⟨a, ha⟩ := h.all u hu
    exact ⟨-a, fun k hk => by rw [ha k hk, e]; grind⟩
theorem cand_spec {r c : Nat} {xs s : List Int} {a : List (List Int)} (hx : xs.length = r * c) (hn : xs.all numB = true) (hc : 1 ≤ c) (hs : s ∈ chTo r (c - 1)) (h : candO r c xs s = some a) (v : List Int) :
    v ∈ a ↔ v.length = c ∧ OneG c xs s (vecL v) ∧ inConeB r c xs v = true := by
  unfold candO at h
  rw [Option.map_eq_some_iff] at h
  obtain ⟨⟨ys, t⟩, hk, rfl⟩ := h
  dsimp only
  by_cases ht : t = 1
  · subst ht
    obtain ⟨hl, hnum, ho⟩ := one_ker hx hn hs hk
    rw [if_pos rfl, List.mem_filter]
    constructor
    · rintro ⟨h1, h2⟩
      rcases List.mem_cons.1 h1 with rfl | h1
      · exact ⟨hl, ho, h2⟩
      · have := List.mem_singleton.1 h1
        subst this
        exact ⟨by simp [hl], ho.neg fun k => vec_neg k, h2⟩
    · rintro ⟨h1, h2, h3⟩
      refine ⟨?_, h3⟩
      obtain ⟨x, hx'⟩ := ho.all _ h2.van
      obtain ⟨y, hy⟩ := h2.all _ ho.van
      obtain ⟨k, hk0, hne⟩ := ho.nz
      have hxy : x * y = 1 := by
        have e1 : vecL ys k = y * (x * vecL ys k) := by rw [← hx' k hk0]; exact hy k hk0
        have e2 : (x * y - 1) * vecL ys k = 0 := by grind
        rcases Int.mul_eq_zero.1 e2 with e | e
        · omega
        · exact absurd e hne
      have ext : ∀ w : List Int, w.length = c → (∀ k, k < c → vecL v k = vecL w k) → v = w := fun w hw he => by
        apply List.ext_getElem (by omega)
        intro k h4 h5
        have := he k (by omega)
        simp only [vecL] at this
        rw [getD_in h4, getD_in h5] at this
        exact this
      rcases unit_two hxy with e | e
      · rw [ext ys hl fun k hk => by rw [hx' k hk, e]; omega]; simp
      · rw [ext (ys.map fun x => -x) (by simp [hl]) fun k hk => by rw [hx' k hk, e, vec_neg]; omega]; simp
  · rw [if_neg ht]
    constructor
    · intro h; cases h
    · rintro ⟨h1, h2, h3⟩
      exfalso
      obtain ⟨hp, htc, hq⟩ := ker_ch hx hn hs hk
      obtain ⟨k, hk0, hne⟩ := h2.nz
      rcases Nat.lt_or_ge t 1 with e | e
      · obtain ⟨q', h4⟩ := (hq _).1 h2.van
        have : t = 0 := by omega
        subst this
        exact hne (by rw [h4 k hk0]; rfl)
      ·
        have hrow : ∀ i, i < t → VanS c xs s fun l => ys.getD (i * c + l) 0 := fun i hi => (hq _).2 ⟨fun j => if j = i then 1 else 0, fun l _ => by rw [comb_one, if_pos hi]; omega⟩
        obtain ⟨x, hx'⟩ := h2.all _ (hrow 0 (by omega))
        obtain ⟨y, hy'⟩ := h2.all _ (hrow 1 (by omega))
        have p0 := hp.yes 0 (by omega)
        have p1 := hp.yes 1 (by omega)
        have hm := hp.mono 0 1 (by omega) (by omega)
        generalize pivF ys (0 * c) c = P at *
        generalize pivF ys (1 * c) c = Q at *
        have e1 := hx' P p0.1
        have e2 := hy' P p0.1
        have e3 := hy' Q p1.1
        try dsimp only at e1 e2 e3
        rw [p1.2.2 P hm] at e2
        rcases Int.mul_eq_zero.1 e2.symm with e4 | e4
        · rw [e4, Int.zero_mul] at e3
          have := p1.2.1
          omega
        · rw [e4, Int.mul_zero] at e1
          have := p0.2.1
          omega
theorem dotR_row {xs : List Int} {c : Nat} {ys : List Int} {i : Nat} : dotR xs c ys i = rowP xs (i * c) c (vecL ys) := by
  have : ∀ n, prodTo xs (i * c) ys n = sg (fun k => xs.getD (i * c + k) 0 * vecL ys k) n := fun n => by
    induction n with
    | zero => rfl
    | succ n ih => rw [prodTo, sg, ih]; rfl
  exact this c
theorem inCone_iff {r c : Nat} {xs v : List Int} (hC : coneM r c xs = true) : inConeB r c xs v = true ↔ v.length = c ∧ v.all numB = true ∧ InC (fun i => rowP xs (i * c) c) r (vecL v) := by
  simp only [inConeB, hC, Bool.true_and, Bool.and_eq_true, decide_eq_true_eq, Int.toNat_natCast]
  constructor
  · rintro ⟨⟨h1, h2⟩, h3⟩
    exact ⟨by omega, h2, fun i hi => by show 0 ≤ rowP _ _ _ _; rw [← dotR_row]; exact h3 i hi⟩
  · rintro ⟨h1, h2, h3⟩
    exact ⟨⟨by omega, h2⟩, fun i hi => by rw [dotR_row]; exact h3 i hi⟩
theorem cand_zeros {r c : Nat} {xs s : List Int} (hx : xs.length = r * c) (hn : xs.all numB = true) (hc : 1 ≤ c) (h24 : c ≤ 24) (hs : s ∈ chTo r (c - 1)) :
    zerosB ((c - 1 : Nat) : Int) c (pickR xs c (natsOf s)) = kerO c (c - 1) (turnM (pickR xs c (natsOf s)) (c - 1) c) := by
  obtain ⟨h1, h2⟩ := ch_rows hs
  have hl := pickR_len hx h2
  rw [h1] at hl
  have : isM ((c - 1 : Nat) : Int) c (pickR xs c (natsOf s)) = true := by
    rw [isM]
    simp only [Bool.and_eq_true, decide_eq_true_eq]
    exact ⟨⟨by omega, by omega, by omega, by omega, by rw [hl]; simp⟩, pick_num hn⟩
  rw [zerosB, if_pos this]; rfl
theorem nats_of {n k : Nat} {s : List Int} (h : s ∈ chTo n k) : natsI (natsOf s) = s := by
  obtain ⟨-, h2, -, -⟩ := chTo_mem h
  simp only [natsI, natsOf, List.map_map]
  conv => rhs; rw [← List.map_id s]
  refine List.map_congr_left fun x hx => ?_
  have := h2 x hx
  simp only [Function.comp, id]
  show ((x.toNat : Nat) : Int) = x
  omega
theorem candTo_row {r c n : Nat} {xs : List Int} {l : List (List Int)} (hx : xs.length = r * c) (hn : xs.all numB = true) (hC : coneM r c xs = true) (hc : 1 ≤ c) (hle : n ≤ (chTo r (c - 1)).length) (h : candTo r c xs (chTo r (c - 1)) n = some l) : ∀ v ∈ l, v.length = c ∧ v.all numB = true := fun v hv => by
  obtain ⟨j, a, hj, h1, h2⟩ := (candTo_mem h v).1 hv
  have hs : (chTo r (c - 1)).getD j [] ∈ chTo r (c - 1) := by rw [getD_in (show j < (chTo r (c - 1)).length by omega)]; exact List.getElem_mem _
  obtain ⟨e1, -, e3⟩ := (cand_spec hx hn hc hs h1 v).1 h2
  exact ⟨e1, ((inCone_iff hC).1 e3).2.1⟩
theorem cand_row {r c : Nat} {xs : List Int} {l : List (List Int)} (hx : xs.length = r * c) (hn : xs.all numB = true) (hC : coneM r c xs = true) (hc : 1 ≤ c) (h : rawO r c xs = some l) : ∀ v ∈ l, v.length = c ∧ v.all numB = true := candTo_row hx hn hC hc (Nat.le_refl _) h
def toV (q : Vec) : V3 := ⟨q 0, q 1, q 2⟩
theorem dt_row {xs : List Int} {i : Nat} {q : Vec} : dt (toV fun k => xs.getD (i * 3 + k) 0) (toV q) = rowP xs (i * 3) 3 q := by
  simp only [dt, toV, rowP, sg]; omega
theorem OneG.gen3 {r : Nat} {xs v : List Int} {i j : Nat} (hC : coneM r 3 xs = true) (hi : i < r) (hj : j < r) (h : OneG 3 xs [(i : Int), (j : Int)] (vecL v)) (hI : inConeB r 3 xs v = true) : Gen r (fun i => toV fun k => xs.getD (i * 3 + k) 0) i j (toV (vecL v)) := by
  have hv : ∀ q : Vec, VanS 3 xs [(i : Int), (j : Int)] q ↔ rowP xs (i * 3) 3 q = 0 ∧ rowP xs (j * 3) 3 q = 0 := fun q => by
    simp [VanS, natsOf]
  obtain ⟨e1, e2⟩ := (hv _).1 h.van
  refine ⟨fun ⟨a, b, c⟩ => ?_, ⟨hi, hj⟩, by rw [dt_row]; exact e1, by rw [dt_row]; exact e2, fun x h1 h2 => ?_, fun k hk => ?_⟩
  · obtain ⟨k, hk, h0⟩ := h.nz
    have : k = 0 ∨ k = 1 ∨ k = 2 := by omega
    rcases this with rfl | rfl | rfl
    · exact h0 a
    · exact h0 b
    · exact h0 c
  · obtain ⟨x, y, z⟩ := x
    have ex : (⟨x, y, z⟩ : V3) = toV (v3 x y z) := rfl
    rw [ex, dt_row] at h1 h2
    obtain ⟨a, ha⟩ := h.all _ ((hv _).2 ⟨h1, h2⟩)
    refine ⟨a, ?_⟩
    have a0 := ha 0 (by omega)
    have a1 := ha 1 (by omega)
    have a2 := ha 2 (by omega)
    simp only [v3] at a0 a1 a2
    simp only [toV, tim, V3.mk.injEq]
    exact ⟨by simpa using a0, by simpa using a1, by simpa using a2⟩
  · rw [dt_row]
    exact ((inCone_iff hC).1 hI).2.2 k hk
theorem toV_inj {v w : List Int} (h1 : v.length = 3) (h2 : w.length = 3) (h : toV (vecL v) = toV (vecL w)) : v = w := by
  match v, w, h1, h2 with
  | [a, b, c], [d, e, f], _, _ => simpa [toV, vecL] using h
theorem mem_ch2 {n : Nat} {s : List Int} (h : s ∈ chTo n 2) : ∃ i j : Nat, s = [(i : Int), (j : Int)] ∧ i < n ∧ j < n := by
  obtain ⟨h1, h2, -, -⟩ := chTo_mem h
  match s, h1 with
  | [a, b], _ =>
    have ha := h2 a (by simp)
    have hb := h2 b (by simp)
    exact ⟨a.toNat, b.toNat, by simp; omega, by omega, by omega⟩
theorem rays_len {r c : Nat} {xs : List Int} {l : List (List Int)} (hr : r ≤ 8) (hx : xs.length = r * c) (hn : xs.all numB = true) (hC : coneM r c xs = true) (hc : 1 ≤ c) (hc3 : c ≤ 3) (h : rawO r c xs = some l) : (addsL l).length ≤ 24 := by
  have hle : (addsL l).length ≤ 0 + l.length := adds_le l []
  have hl := candTo_len h
  have h0 := chTo_len hr (k := c - 1) (by omega)
  by_cases e : c = 3
  · subst e
    refine Nat.le_trans (adds_groups r (fun i v => ∃ j, Gen r (fun i => toV fun k => xs.getD (i * 3 + k) 0) i j (toV (vecL v)) ∧ v.length = 3) (fun v hv => ?_) fun i hi x y z ⟨a, g1, l1⟩ ⟨b, g2, l2⟩ ⟨d, g3, l3⟩ h1 h2 h3 => ?_) (by omega)
    · obtain ⟨j, a, hj, h1, h2⟩ := (candTo_mem h v).1 hv
      have hs : (chTo r (3 - 1)).getD j [] ∈ chTo r (3 - 1) := by rw [getD_in hj]; exact List.getElem_mem _
      obtain ⟨e1, e2, e3⟩ := (cand_spec hx hn hc hs h1 v).1 h2
      obtain ⟨p, q, hpq, hp, hq⟩ := mem_ch2 hs
      rw [hpq] at e2
      exact ⟨p, hp, q, e2.gen3 hC hp hq e3, e1⟩
    · exact g1.three g2 g3 (fun e => h1 (toV_inj l1 l2 e)) (fun e => h2 (toV_inj l2 l3 e)) (fun e => h3 (toV_inj l1 l3 e))
  · have : (chTo r (c - 1)).length ≤ 8 := by
      by_cases e1 : c - 1 = 0
      · have := h0.2.1 e1; omega
      · exact h0.2.2 (by omega)
    omega
end Go.Proofs.YtfkbjkmlpinoeaaGreat
namespace Go.Proofs.YtfkbjkmlpinoeaaGreat
open Go.RowKit
section
variable {P : Program} {E : Env} {N : Nat} {Q : Post} {fr : Nat → Option AV} {H : Nat → Option Blk} {nx : Nat}
def cutQ {α : Type} (n0 : Nat) (pre : α → Prop) (F : α → List (Nat × AV)) (Hh : α → List (Nat × Blk)) (nx : Nat) (Q : Post) : Post := fun e σ => match e with
  | .normal => ∃ m y, pre y ∧ Weak n0 σ.fr σ.H m (F y) (Hh y) nx
  | e => Q e σ
theorem awp_cut {α : Type} (i : Nat) {ops : Array Oper} {dr : Bool} {x2 y : Code} {n0 : Nat} (hn : E.n0 = n0) (pre : α → Prop) (F : α → List (Nat × AV)) (Hh : α → List (Nat × Blk)) (nx1 : Nat)
    (h : awp P E N (.seq (.region i ops dr) x2) (cutQ n0 pre F Hh nx1 Q) ⟨fr, H, nx⟩)
    (hr : ∀ z, pre z → awp P E N y Q ⟨lk (F z), lk (Hh z), nx1⟩) : awp P E N (.seq (.seq (.region i ops dr) x2) y) Q ⟨fr, H, nx⟩ := by
  unfold awp at *
  intro ρ a w hI
  refine wp_seq (Code.wp_mono (fun e a' w' hq => ?_) (h ρ a w hI))
  obtain ⟨ρ', σ', hI', hq⟩ := hq
  cases e with
  | normal =>
    obtain ⟨m, z, hp, hw⟩ := hq
    exact hr z hp _ a' w' (hI'.weak hn hw.f hw.h hw.ok)
  | exit id => exact ⟨ρ', σ', hI', hq⟩
  | goto l => exact ⟨ρ', σ', hI', hq⟩
  | ret => exact ⟨ρ', σ', hI', hq⟩
  | panic => exact ⟨ρ', σ', hI', hq⟩
  | outgrown => exact ⟨ρ', σ', hI', hq⟩
variable {l0 : List Oper} {ρs : Rho} {nxs : Nat} {hs : List (Nat × Blk)} {fuel : Nat} {listed : Array Bool}
theorem Does.mono {f : FuncId} {args : List AV} {Hin : List (Nat × Blk)} {n0 : Nat} {Out Out' : AV → List (Nat × Blk) → Nat → Prop} (hD : Does P f args Hin n0 Out) (hm : ∀ v Hout n1, Out v Hout n1 → Out' v Hout n1) : Does P f args Hin n0 Out' :=
  ⟨hD.fn, fun ρ w hH hk => Calls.mono (hD.calls ρ w hH hk) fun _ _ ⟨ρ', v, Hout, n1, ho, h⟩ => ⟨ρ', v, Hout, n1, hm _ _ _ ho, h⟩⟩
end
end Go.Proofs.YtfkbjkmlpinoeaaGreat
namespace Go.Proofs.YtfkbjkmlpinoeaaGreat
open Go.RowKit
def ChoR (th t : TypeId) (L : List (List Int)) (k : Nat) (v : AV) (Hout : List (Nat × Blk)) (n1 : Nat) : Prop := ∃ l cap, rowsX l = L ∧ v = vS k 1 0 l.length cap ∧ Hout = [(k, .own th cap (.rows false true l)), (k + 1, .tok t false l)] ∧ n1 = k + 2
theorem chRow {n k j : Nat} {l : List Row} (h : rowsX l = chTo n k) (hj : j < l.length) : (l.getD (0 + (j : Int).toNat) rowD).xs = (chTo n k).getD j [] ∧ (chTo n k).getD j [] ∈ chTo n k ∧ ((chTo n k).getD j []).length = k := by
  have hx := rowsX_at h hj
  have hl := rowsX_len h
  have hm : (chTo n k).getD j [] ∈ chTo n k := by rw [getD_in (by omega)]; exact List.getElem_mem _
  exact ⟨hx, hm, (chTo_mem hm).1⟩
set_option maxRecDepth 100000 in
set_option maxHeartbeats 4000000 in
theorem d_choices (n : Nat) (hn : n ≤ 8) : ∀ k : Nat, k ≤ 2 → Does Tryz.prog 45 [vI n, vI k] [] 1 (ChoR 24 3 (chTo n k) 1)
 | 0, _ => by
  refine Does.intro TT Tryz.func45 rfl (by kernel_rfl) Zz Zz fun E hE => ?_
  ((repeat' (first | refine stx ?_ | (refine stq ?_ ?_ <;> (intro hc; ((try simp at hc) <;> try contradiction))) | fail)) <;> try (exfalso; omega))
  ((first | refine awpL_ghost (Ghost.newTok 3 false) ?_ | refine awp_ghost (Ghost.newTok 3 false) ?_ | refine awpH_ghost (Ghost.newTok 3 false) ?_ | refine awpHop_ghost (Ghost.newTok 3 false) ?_); rintro _ _ ⟨rfl, rfl⟩)
  ((first | refine awpL_ghost (Ghost.freeze 1 2 Zz Zz) ?_ | refine awp_ghost (Ghost.freeze 1 2 Zz Zz) ?_ | refine awpH_ghost (Ghost.freeze 1 2 Zz Zz) ?_ | refine awpHop_ghost (Ghost.freeze 1 2 Zz Zz) ?_); rintro _ _ ⟨a0, rfl, rfl⟩)
  ((repeat' (first | refine stx ?_ | (refine stq ?_ ?_ <;> (intro hc; ((try simp at hc) <;> try contradiction))) | fail)) <;> try (exfalso; omega))
  exact fin rfl w_3 [(1, 3), (2, 2)] (vS 1 1 0 1 1) [(1, .own 24 1 (.rows false true [⟨a0, 0, [], []⟩])), (2, .tok 3 false [⟨a0, 0, [], []⟩])] 3 ⟨_, 1, rfl, rfl, rfl, rfl⟩ rfl ⟨trivial, ⟨rfl, rfl, trivial⟩, rfl⟩ rfl
 | k + 1, hk2 => by
  have hrec : Does Tryz.prog 45 [vI n, vI (((k + 1 : Nat) : Int) - 1)] [] 1 (ChoR 24 3 (chTo n k) 1) := by
   rw [show (((k + 1 : Nat) : Int) - 1) = (k : Int) by omega]
   exact d_choices n hn k (by omega)
  refine Does.intro TT Tryz.func45 rfl (by kernel_rfl) Zz Zz fun E hE => ?_
  have hkl := chTo_len hn (k := k) (by omega)
  ((repeat' (first | refine stx ?_ | ((refine w_E (hrec) Zz Zz Zz Zz Zz Zz Zz ft rfl ?_); rintro v Hout n1 ⟨l, cap, hl, rfl, rfl, rfl⟩) | (refine stq ?_ ?_ <;> (intro hc; ((try simp at hc) <;> try contradiction))) | fail)) <;> try (exfalso; omega))
  have hll := rowsX_len hl
  ((first | refine awpL_ghost (Ghost.newTok 3 false) ?_ | refine awp_ghost (Ghost.newTok 3 false) ?_ | refine awpH_ghost (Ghost.newTok 3 false) ?_ | refine awpHop_ghost (Ghost.newTok 3 false) ?_); rintro _ _ ⟨rfl, rfl⟩)
  refine w_G hE (fun x : Nat × List Row × Nat => x.1 ≤ l.length ∧ rowsX x.2.1 = midC n k x.1 0) (fun x => l.length - x.1)
   (fun x => [(0, vI n), (5, vS 1 1 0 x.2.1.length x.2.2), (18, vS 2 1 0 l.length cap), (19, vI l.length), (20, vI x.1)])
   (fun x => [(1, .own 24 x.2.2 (.rows false true x.2.1)), (2, .own 24 cap (.rows false true l)), (3, .tok 3 false l), (4, .tok 3 false x.2.1)]) 5 [] (0, [], 0) ⟨Nat.zero_le _, rfl⟩ ⟨w_1, w_2, rfl⟩ ?_
  rintro ⟨j, l2, cap2⟩ ⟨hj, hl2⟩
  dsimp only at hj hl2
  have hl2n : l2.length ≤ 1000 := by rw [rowsX_len hl2]; exact midC_len hn (by omega) (by omega) (by omega)
  by_cases hjl : j < l.length
  ·obtain ⟨hvx, hvm, hvn⟩ := chRow hl hjl
   obtain ⟨-, hvb, f0, f1⟩ := chTo_mem hvm
   have hvl : (l.getD (0 + (j : Int).toNat) rowD).xs.length = k := by rw [hvx, hvn]
   have hnf : (l[j]?.getD rowD).xs.length = (l.getD (0 + (j : Int).toNat) rowD).xs.length := by simp
   have hbx : ∀ i : Nat, 0 ≤ (l.getD (0 + (j : Int).toNat) rowD).xs.getD i 0 ∧ (l.getD (0 + (j : Int).toNat) rowD).xs.getD i 0 ≤ n := fun i => by
    rw [hvx]
    rcases Nat.lt_or_ge i ((chTo n k).getD j []).length with h | h
    ·have := hvb _ (List.getElem_mem h)
     rw [getD_in h]; omega
    ·rw [List.getD_eq_getElem?_getD, List.getElem?_eq_none h]; simp
   have hb9 := hbx (0 + (((l.getD (0 + (j : Int).toNat) rowD).xs.length : Int) - 1).toNat)
   have hb8 := hb9
   simp only [Nat.zero_add, List.getD_eq_getElem?_getD, Int.toNat_natCast] at hb8
   have e8 : ∀ g : Int, g = (l.getD (0 + (j : Int).toNat) rowD).xs.getD (0 + (((l.getD (0 + (j : Int).toNat) rowD).xs.length : Int) - 1).toNat) 0 + 1 → 0 < (l.getD (0 + (j : Int).toNat) rowD).xs.length → g = fromI ((chTo n k).getD j []) k := fun g hg h0 => by
    rw [hg, hvl, hvx, fromI, if_pos (by omega)]
    congr 2; omega
   have e9 : (l.getD (0 + (j : Int).toNat) rowD).xs.length = 0 → 0 = fromI ((chTo n k).getD j []) k := fun h0 => by
    rw [fromI, if_neg (by omega)]
   ((repeat' (first | (refine awp_cut 8 hE (fun _ : Unit => True) (fun _ => [(0, vI n), (5, vS 1 1 0 l2.length cap2), (7, vS 5 1 0 (l.getD (0 + (j : Int).toNat) rowD).xs.length (l.getD (0 + (j : Int).toNat) rowD).cap), (8, vI (fromI ((chTo n k).getD j []) k)), (18, vS 2 1 0 l.length cap), (19, vI l.length), (20, vI j)]) (fun _ => [(1, .own 24 cap2 (.rows false true l2)), (2, .own 24 cap (.rows false true l)), (3, .tok 3 false l), (4, .tok 3 false l2), (5, .al (l.getD (0 + (j : Int).toNat) rowD).a (.ints (l.getD (0 + (j : Int).toNat) rowD).xs))]) 6 ?_ ?_) | refine stp ?_ | (refine stq ?_ ?_ <;> (intro hc; ((try simp at hc) <;> try contradiction))) | fail)) <;> try (exfalso; omega))
   ·rw [← e8 _ rfl (by omega)]
    exact ⟨[], (), trivial, ⟨w_1, w_2, rfl⟩⟩
   ·rw [← e9 (by have := congrArg List.length hc; simp only [List.length_nil] at this; omega)]
    exact ⟨[], (), trivial, ⟨w_1, w_2, rfl⟩⟩
   rintro ⟨⟩ -
   try dsimp only
   generalize hf : fromI ((chTo n k).getD j []) k = f at *
   clear e8 e9 hnf hb8 hb9 hbx
   ((repeat' (first | refine stx ?_ | (refine stq ?_ ?_ <;> (intro hc; ((try simp at hc) <;> try contradiction))) | fail)) <;> try (exfalso; omega))
   refine w_G hE (fun x : Nat × List Row × Nat => x.1 ≤ ((n : Int) - f).toNat ∧ rowsX x.2.1 = midC n k j x.1) (fun x => ((n : Int) - f).toNat - x.1)
    (fun x => [(0, vI n), (5, vS 1 1 0 x.2.1.length x.2.2), (7, vS 5 1 0 (l.getD (0 + (j : Int).toNat) rowD).xs.length (l.getD (0 + (j : Int).toNat) rowD).cap), (9, vI (f + (x.1 : Int))), (18, vS 2 1 0 l.length cap), (19, vI l.length), (20, vI j)])
    (fun x => [(1, .own 24 x.2.2 (.rows false true x.2.1)), (2, .own 24 cap (.rows false true l)), (3, .tok 3 false l), (4, .tok 3 false x.2.1), (5, .al (l.getD (0 + (j : Int).toNat) rowD).a (.ints (l.getD (0 + (j : Int).toNat) rowD).xs))]) 6 [] (0, l2, cap2) ⟨Nat.zero_le _, hl2⟩ ⟨w_1, w_2, rfl⟩ ?_
   rintro ⟨m, l3, cap3⟩ ⟨hm, hl3⟩
   dsimp only at hm hl3
   have hl3n : l3.length ≤ 1000 := by rw [rowsX_len hl3]; exact midC_len hn (by omega) (by omega) (by omega)
   by_cases hmw : m < ((n : Int) - f).toNat
   ·((repeat' (first | refine stx ?_ | (refine w_x TT Zz Zz Zz Zz Zz sd ?_; intro cap hcap) | (refine stq ?_ ?_ <;> (intro hc; ((try simp at hc) <;> try contradiction))) | fail)) <;> try (exfalso; omega))
    ((first | refine awpL_ghost (Ghost.freeze 9 4 Zz Zz) ?_ | refine awp_ghost (Ghost.freeze 9 4 Zz Zz) ?_ | refine awpH_ghost (Ghost.freeze 9 4 Zz Zz) ?_ | refine awpHop_ghost (Ghost.freeze 9 4 Zz Zz) ?_); rintro _ _ ⟨a1, rfl, rfl⟩)
    ((repeat' (first | refine stx ?_ | (refine w_x TT Zz Zz Zz Zz Zz sd ?_; intro cap hcap) | (refine stq ?_ ?_ <;> (intro hc; ((try simp at hc) <;> try contradiction))) | fail)) <;> try (exfalso; omega))
    refine ⟨[(1, 11)], (m + 1, _, _), ⟨hmw, ?_⟩, w_4, ⟨w_1, ⟨rfl, rfl, rfl, rfl, rfl, trivial⟩, rfl⟩⟩
    show rowsX (l3 ++ [_]) = _
    rw [midC_next, hf, ← hl3, ← hvx]
    simp [rowsX]
   ·obtain rfl : m = ((n : Int) - f).toNat := by omega
    ((repeat' (first | refine stx ?_ | (refine stq ?_ ?_ <;> (intro hc; ((try simp at hc) <;> try contradiction))) | fail)) <;> try (exfalso; omega))
    exact ⟨[], (j + 1, l3, cap3), ⟨hjl, by dsimp only; rw [hl3, ← hf, midC_row (by omega)]⟩, w_4, ⟨w_1, w_2, rfl⟩⟩
  ·obtain rfl : j = l.length := by omega
   ((repeat' (first | refine stx ?_ | (refine stq ?_ ?_ <;> (intro hc; ((try simp at hc) <;> try contradiction))) | fail)) <;> try (exfalso; omega))
   exact fin rfl w_3 [(1, 1), (2, 4)] (vS 1 1 0 l2.length cap2) [(1, .own 24 cap2 (.rows false true l2)), (2, .tok 3 false l2)] 3 ⟨l2, cap2, by rw [hl2, hll, midC_full], rfl, rfl, rfl⟩ rfl ⟨trivial, ⟨rfl, rfl, trivial⟩, rfl⟩ rfl
set_option maxRecDepth 100000 in
set_option maxHeartbeats 4000000 in
theorem d_subsets (n k : Nat) (hn : n ≤ 8) (hk2 : k ≤ 2) : Does Tryz.prog 59 [vI n, vI k] [] 1 (ChoR 24 3 (chTo n k) 1) := by
 refine Does.intro TT Tryz.func59 rfl (by kernel_rfl) Zz Zz fun E hE => ?_
 ((repeat' (first | refine stx ?_ | (refine stq ?_ ?_ <;> (intro hc; ((try simp at hc) <;> try contradiction))) | fail)) <;> try (exfalso; omega))
 ((first | refine awpL_ghost (Ghost.newTok 3 false) ?_ | refine awp_ghost (Ghost.newTok 3 false) ?_ | refine awpH_ghost (Ghost.newTok 3 false) ?_ | refine awpHop_ghost (Ghost.newTok 3 false) ?_); rintro _ _ ⟨rfl, rfl⟩)
 ((first | refine awpL_ghost (Ghost.freeze 1 2 Zz Zz) ?_ | refine awp_ghost (Ghost.freeze 1 2 Zz Zz) ?_ | refine awpH_ghost (Ghost.freeze 1 2 Zz Zz) ?_ | refine awpHop_ghost (Ghost.freeze 1 2 Zz Zz) ?_); rintro _ _ ⟨a0, rfl, rfl⟩)
 ((repeat' (first | refine stx ?_ | (refine stq ?_ ?_ <;> (intro hc; ((try simp at hc) <;> try contradiction))) | fail)) <;> try (exfalso; omega))
 refine w_G hE (fun x : Nat × List Row × Nat => x.1 ≤ k ∧ rowsX x.2.1 = chTo n x.1) (fun x => k - x.1)
  (fun x => [(0, vI n), (1, vI k), (5, vS 1 1 0 x.2.1.length x.2.2), (6, vI x.1)])
  (fun x => [(1, .own 24 x.2.2 (.rows false true x.2.1)), (2, .tok 3 false x.2.1)]) 3 [(1, 3)] (0, [⟨a0, 0, [], []⟩], 1) ⟨Nat.zero_le _, rfl⟩ ⟨w_1, w_2, rfl⟩ ?_
 rintro ⟨i, l, cap⟩ ⟨hi, hl⟩
 dsimp only at hi hl
 have hll := rowsX_len hl
 have hkl := chTo_len hn (k := i) (by omega)
 by_cases hik : i < k
 ·((repeat' (first | refine stx ?_ | (refine stq ?_ ?_ <;> (intro hc; ((try simp at hc) <;> try contradiction))) | fail)) <;> try (exfalso; omega))
  ((first | refine awpL_ghost (Ghost.newTok 3 false) ?_ | refine awp_ghost (Ghost.newTok 3 false) ?_ | refine awpH_ghost (Ghost.newTok 3 false) ?_ | refine awpHop_ghost (Ghost.newTok 3 false) ?_); rintro _ _ ⟨rfl, rfl⟩)
  refine w_G hE (fun x : Nat × List Row × Nat => x.1 ≤ l.length ∧ rowsX x.2.1 = midC n i x.1 0) (fun x => l.length - x.1)
   (fun x => [(0, vI n), (1, vI k), (5, vS 1 1 0 l.length cap), (6, vI i), (7, vS 3 1 0 x.2.1.length x.2.2), (8, vI x.1)])
   (fun x => [(1, .own 24 cap (.rows false true l)), (2, .tok 3 false l), (3, .own 24 x.2.2 (.rows false true x.2.1)), (4, .tok 3 false x.2.1)]) 5 [] (0, [], 0) ⟨Nat.zero_le _, rfl⟩ ⟨w_1, w_2, rfl⟩ ?_
  rintro ⟨j, l2, cap2⟩ ⟨hj, hl2⟩
  dsimp only at hj hl2
  have hl2n : l2.length ≤ 1000 := by rw [rowsX_len hl2]; exact midC_len hn (by omega) (by omega) (by omega)
  by_cases hjl : j < l.length
  ·obtain ⟨hvx, hvm, hvn⟩ := chRow hl hjl
   obtain ⟨-, hvb, f0, f1⟩ := chTo_mem hvm
   have hvl : (l.getD (0 + (j : Int).toNat) rowD).xs.length = i := by rw [hvx, hvn]
   have hnf : (l[j]?.getD rowD).xs.length = i := by rw [← hvl]; simp
   have hbx : ∀ i : Nat, 0 ≤ (l.getD (0 + (j : Int).toNat) rowD).xs.getD i 0 ∧ (l.getD (0 + (j : Int).toNat) rowD).xs.getD i 0 ≤ n := fun i => by
    rw [hvx]
    rcases Nat.lt_or_ge i ((chTo n _).getD j []).length with h | h
    ·have := hvb _ (List.getElem_mem h)
     rw [getD_in h]; omega
    ·rw [List.getD_eq_getElem?_getD, List.getElem?_eq_none h]; simp
   have hb9 := hbx (0 + ((i : Int) - 1).toNat)
   have hb8 := hb9
   simp only [Nat.zero_add, List.getD_eq_getElem?_getD, Int.toNat_natCast] at hb8
   have e8 : ∀ g : Int, g = (l.getD (0 + (j : Int).toNat) rowD).xs.getD (0 + ((i : Int) - 1).toNat) 0 + 1 → 0 < i → g = fromI ((chTo n i).getD j []) i := fun g hg h0 => by
    rw [hg, hvx, fromI, if_pos (by omega)]
    congr 2; omega
   have e9 : i = 0 → 0 = fromI ((chTo n i).getD j []) i := fun h0 => by
    rw [fromI, if_neg (by omega)]
   ((repeat' (first | (refine awp_cut 10 hE (fun _ : Unit => True) (fun _ => [(0, vI n), (1, vI k), (5, vS 1 1 0 l.length cap), (6, vI i), (7, vS 3 1 0 l2.length cap2), (8, vI j), (9, vI (fromI ((chTo n i).getD j []) i))]) (fun _ => [(1, .own 24 cap (.rows false true l)), (2, .tok 3 false l), (3, .own 24 cap2 (.rows false true l2)), (4, .tok 3 false l2)]) 5 ?_ ?_) | refine stp ?_ | (refine stq ?_ ?_ <;> (intro hc; ((try simp at hc) <;> try contradiction))) | fail)) <;> try (exfalso; omega))
   ·rw [← e8 _ rfl (by omega)]
    exact ⟨[], (), trivial, ⟨w_1, w_2, rfl⟩⟩
   ·rw [← e9 (by omega)]
    exact ⟨[], (), trivial, ⟨w_1, w_2, rfl⟩⟩
   rintro ⟨⟩ -
   try dsimp only
   generalize hf : fromI ((chTo n i).getD j []) i = f at *
   clear e8 e9 hnf hb8 hb9 hbx
   ((repeat' (first | refine stx ?_ | (refine stq ?_ ?_ <;> (intro hc; ((try simp at hc) <;> try contradiction))) | fail)) <;> try (exfalso; omega))
   refine w_G hE (fun x : Nat × List Row × Nat => x.1 ≤ ((n : Int) - f).toNat ∧ rowsX x.2.1 = midC n i j x.1) (fun x => ((n : Int) - f).toNat - x.1)
    (fun x => [(0, vI n), (1, vI k), (5, vS 1 1 0 l.length cap), (6, vI i), (7, vS 3 1 0 x.2.1.length x.2.2), (8, vI j), (10, vI (f + (x.1 : Int)))])
    (fun x => [(1, .own 24 cap (.rows false true l)), (2, .tok 3 false l), (3, .own 24 x.2.2 (.rows false true x.2.1)), (4, .tok 3 false x.2.1)]) 5 [] (0, l2, cap2) ⟨Nat.zero_le _, hl2⟩ ⟨w_1, w_2, rfl⟩ ?_
   rintro ⟨m, l3, cap3⟩ ⟨hm, hl3⟩
   dsimp only at hm hl3
   have hl3n : l3.length ≤ 1000 := by rw [rowsX_len hl3]; exact midC_len hn (by omega) (by omega) (by omega)
   by_cases hmw : m < ((n : Int) - f).toNat
   ·((repeat' (first | refine stx ?_ | (refine w_x TT Zz Zz Zz Zz Zz sd ?_; intro cap hcap) | (refine stq ?_ ?_ <;> (intro hc; ((try simp at hc) <;> try contradiction))) | fail)) <;> try (exfalso; omega))
    ((first | refine awpL_ghost (Ghost.freeze 9 4 Zz Zz) ?_ | refine awp_ghost (Ghost.freeze 9 4 Zz Zz) ?_ | refine awpH_ghost (Ghost.freeze 9 4 Zz Zz) ?_ | refine awpHop_ghost (Ghost.freeze 9 4 Zz Zz) ?_); rintro _ _ ⟨a1, rfl, rfl⟩)
    ((repeat' (first | refine stx ?_ | (refine w_x TT Zz Zz Zz Zz Zz sd ?_; intro cap hcap) | (refine stq ?_ ?_ <;> (intro hc; ((try simp at hc) <;> try contradiction))) | fail)) <;> try (exfalso; omega))
    refine ⟨[(3, 11)], (m + 1, _, _), ⟨hmw, ?_⟩, w_4, ⟨w_1, ⟨rfl, rfl, rfl, rfl, trivial⟩, rfl⟩⟩
    show rowsX (l3 ++ [_]) = _
    rw [midC_next, hf, ← hl3, ← hvx]
    simp [rowsX]
   ·obtain rfl : m = ((n : Int) - f).toNat := by omega
    ((repeat' (first | refine stx ?_ | (refine stq ?_ ?_ <;> (intro hc; ((try simp at hc) <;> try contradiction))) | fail)) <;> try (exfalso; omega))
    exact ⟨[], (j + 1, l3, cap3), ⟨hjl, by dsimp only; rw [hl3, ← hf, midC_row (by omega)]⟩, w_4, ⟨w_1, w_2, rfl⟩⟩
  ·obtain rfl : j = l.length := by omega
   ((repeat' (first | refine stx ?_ | (refine stq ?_ ?_ <;> (intro hc; ((try simp at hc) <;> try contradiction))) | fail)) <;> try (exfalso; omega))
   exact ⟨[(1, 3), (2, 4)], (i + 1, l2, cap2), ⟨hik, by dsimp only; rw [hl2, hll, midC_full]⟩, w_4, ⟨w_1, w_2, rfl⟩⟩
 ·obtain rfl : i = k := by omega
  ((repeat' (first | refine stx ?_ | (refine stq ?_ ?_ <;> (intro hc; ((try simp at hc) <;> try contradiction))) | fail)) <;> try (exfalso; omega))
  exact fin rfl w_3 [] (vS 1 1 0 l.length cap) [(1, .own 24 cap (.rows false true l)), (2, .tok 3 false l)] 3 ⟨l, cap, hl, rfl, rfl, rfl⟩ rfl ⟨trivial, ⟨rfl, rfl, trivial⟩, rfl⟩ rfl
end Go.Proofs.YtfkbjkmlpinoeaaGreat
namespace Go.Proofs.YtfkbjkmlpinoeaaGreat
open Go.Shelf Go.Proofs
def Tryz.l6_ren : Go.Shelf.Ren := ⟨fun | 6 => 50 | 15 => 97 | 14 => 96 | 28 => 137 | 29 => 138 | 20 => 129 | 21 => 130 | 22 => 131 | 23 => 132 | 24 => 133 | 25 => 134 | 26 => 135 | 27 => 136 | 46 => 158 | 47 => 159 | 48 => 160 | 49 => 161 | 50 => 162 | 57 => 177 | n => n, fun | 22 => 37 | 24 => 24 | 25 => 61 | 3 => 3 | 39 => 93 | 0 => 0 | 53 => 120 | 55 => 122 | 4 => 4 | 46 => 114 | 45 => 113 | 50 => 30 | 5 => 5 | 9 => 9 | 66 => 137 | 70 => 141 | 76 => 150 | 77 => 151 | n => n, fun | n => n⟩
theorem Tryz.l6 : Go.Proofs.SlLaysF.n6 Tryz.prog Tryz.l6_ren := {
  mixed := by kernel_rfl
  f6 := ⟨Tryz.f50.name, by decide, Tryz.func50.trans (congrArg some (by kernel_rfl))⟩
  f14 := ⟨Tryz.f96.name, by decide, Tryz.func96.trans (congrArg some (by kernel_rfl))⟩
  f15 := Tryz.func97.trans (congrArg some (by kernel_rfl))
  f20 := ⟨Tryz.f129.name, by decide, Tryz.func129.trans (congrArg some (by kernel_rfl))⟩
  f21 := ⟨Tryz.f130.name, by decide, Tryz.func130.trans (congrArg some (by kernel_rfl))⟩
  f22 := ⟨Tryz.f131.name, by decide, Tryz.func131.trans (congrArg some (by kernel_rfl))⟩
  f23 := ⟨Tryz.f132.name, by decide, Tryz.func132.trans (congrArg some (by kernel_rfl))⟩
  f24 := ⟨Tryz.f133.name, by decide, Tryz.func133.trans (congrArg some (by kernel_rfl))⟩
  f25 := ⟨Tryz.f134.name, by decide, Tryz.func134.trans (congrArg some (by kernel_rfl))⟩
  f26 := ⟨Tryz.f135.name, by decide, Tryz.func135.trans (congrArg some (by kernel_rfl))⟩
  f27 := ⟨Tryz.f136.name, by decide, Tryz.func136.trans (congrArg some (by kernel_rfl))⟩
  f28 := Tryz.func137.trans (congrArg some (by kernel_rfl))
  f29 := Tryz.func138.trans (congrArg some (by kernel_rfl))
  f46 := ⟨Tryz.f158.name, by decide, Tryz.func158.trans (congrArg some (by kernel_rfl))⟩
  f47 := Tryz.func159.trans (congrArg some (by kernel_rfl))
  f48 := Tryz.func160.trans (congrArg some (by kernel_rfl))
  f49 := ⟨Tryz.f161.name, by decide, Tryz.func161.trans (congrArg some (by kernel_rfl))⟩
  f50 := ⟨Tryz.f162.name, by decide, Tryz.func162.trans (congrArg some (by kernel_rfl))⟩
  f57 := ⟨Tryz.f177.name, by decide, Tryz.func177.trans (congrArg some (by kernel_rfl))⟩
  t0 := Tryz.underlying0
  a0 := Tryz.isAgg0
  z0 := Tryz.sizeOf0
  v0 := Tryz.zeroValue0
  t3 := Tryz.underlying3
  a3 := Tryz.isAgg3
  z3 := Tryz.sizeOf3
  v3 := Tryz.zeroValue3
  t4 := Tryz.underlying4
  a4 := Tryz.isAgg4
  z4 := Tryz.sizeOf4
  v4 := Tryz.zeroValue4
  t5 := Tryz.underlying5
  a5 := Tryz.isAgg5
  z5 := Tryz.sizeOf5
  v5 := Tryz.zeroValue5
  t9 := Tryz.underlying9
  a9 := Tryz.isAgg9
  z9 := Tryz.sizeOf9
  v9 := Tryz.zeroValue9
  t22 := Tryz.underlying37
  a22 := Tryz.isAgg37
  z22 := Tryz.sizeOf37
  v22 := Tryz.zeroValue37
  a24 := Tryz.isAgg24
  z24 := Tryz.sizeOf24
  t25 := Tryz.underlying61
  a25 := Tryz.isAgg61
  z25 := Tryz.sizeOf61
  v25 := Tryz.zeroValue61
  t39 := Tryz.underlying93
  a39 := Tryz.isAgg93
  z39 := Tryz.sizeOf93
  v39 := Tryz.zeroValue93
  t45 := Tryz.underlying113
  a45 := Tryz.isAgg113
  z45 := Tryz.sizeOf113
  v45 := Tryz.zeroValue113
  t46 := Tryz.underlying114
  a46 := Tryz.isAgg114
  z46 := Tryz.sizeOf114
  v46 := Tryz.zeroValue114
  t50 := Tryz.underlying30
  a50 := Tryz.isAgg30
  z50 := Tryz.sizeOf30
  v50 := Tryz.zeroValue30
  t53 := Tryz.underlying120
  a53 := Tryz.isAgg120
  z53 := Tryz.sizeOf120
  v53 := Tryz.zeroValue120
  t55 := Tryz.underlying122
  a55 := Tryz.isAgg122
  z55 := Tryz.sizeOf122
  v55 := Tryz.zeroValue122
  t66 := Tryz.underlying137
  a66 := Tryz.isAgg137
  z66 := Tryz.sizeOf137
  v66 := Tryz.zeroValue137
  t70 := Tryz.underlying141
  a70 := Tryz.isAgg141
  z70 := Tryz.sizeOf141
  v70 := Tryz.zeroValue141
  t76 := Tryz.underlying150
  a76 := Tryz.isAgg150
  z76 := Tryz.sizeOf150
  v76 := Tryz.zeroValue150
  t77 := Tryz.underlying151
  a77 := Tryz.isAgg151
  z77 := Tryz.sizeOf151
  v77 := Tryz.zeroValue151 }
end Go.Proofs.YtfkbjkmlpinoeaaGreat
