/-
  TEXTS OF THE PROOF, put together: pRays3, bTight, bDraw, bDrawM, bDrawB.
-/
import Derived.Test.YtfkbjkmlpinoeaaGreatR25
import Derived.Test.YtfkbjkmlpinoeaaGreatR30
import Derived.Test.YtfkbjkmlpinoeaaGreatR08
import Derived.Test.YtfkbjkmlpinoeaaGreatR11
set_option linter.unusedVariables false
set_option linter.unusedSimpArgs false
namespace Go.Proofs.YtfkbjkmlpinoeaaGreat
theorem pt_of {a b : Nat} {xs : List Int} (hx : xs.length = a * b) (hn : xs.all numB = true) (hp : pointB a b xs = true) : Pt (fun i => rowP xs (i * b) b) a b := fun q hq => rank_ker0 hx hn (by
  unfold pointB rankB at hp
  split at hp
  · rename_i k hk
    split at hk
    · simp only [Bool.and_eq_true, decide_eq_true_eq] at hp
      rw [Int.toNat_natCast, Int.toNat_natCast] at hk
      rw [hk]; congr 1; omega
    · cases hk
  · cases hp) q hq
theorem lin_rows {xs : List Int} {b : Nat} : LinF (fun i => rowP xs (i * b) b) := fun i x y u w => rowP_lin xs (i * b) b x y u w
theorem raw_iff {r c : Nat} {xs : List Int} {raw : List (List Int)} (hC : coneM r c xs = true) (hx : xs.length = r * c) (hn : xs.all numB = true) (hc1 : 1 ≤ c) (hc : c ≤ 3) (hr : rawO r c xs = some raw) (v : List Int) : v ∈ raw ↔ RayP r c xs v := by
  constructor
  · intro hv
    obtain ⟨j, s, hj, h2, h3⟩ := (candTo_mem hr v).1 hv
    have hs : (chTo r (c - 1)).getD j [] ∈ chTo r (c - 1) := by rw [getD_in hj]; exact List.getElem_mem _
    obtain ⟨e1, e2, e3⟩ := (cand_spec hx hn hc1 hs h2 v).1 h3
    exact OneG.ray e1 e2 (ch_rows hs).2 ((inCone_iff hC).1 e3).2.2
  · intro hv
    obtain ⟨u, hu, a, ha, he⟩ := ext_ray hC hx hn hc1 hc hr hv.ext
    obtain ⟨b, hb⟩ := hv.prim (vecL u) fun k l hk hl => by rw [he k hk, he l hl]; grind
    obtain ⟨k, hk, h0⟩ := hv.ext.nz
    have h1 : a * b = 1 := by
      have e1 := he k hk
      rw [hb k hk] at e1
      have e2 : (a * b - 1) * vecL v k = 0 := by grind
      rcases Int.mul_eq_zero.1 e2 with e | e
      · omega
      · exact absurd e h0
    have h2 : a = 1 := by
      rcases unit_two h1 with e | e <;> omega
    have hul := (cand_row hx hn hC hc1 hr u hu).1
    have : v = u := by
      apply List.ext_getElem (by rw [hv.len, hul])
      intro i i1 i2
      have := he i (by rw [hv.len] at i1; exact i1)
      rw [h2] at this
      simp only [vecL] at this
      rw [getD_in i1, getD_in i2] at this
      omega
    rw [this]; exact hu
def absT (L : Nat → Vec → Int) (u : Vec) : Nat → Int
  | 0 => 0
  | n + 1 => absT L u n + (L n u).natAbs
theorem absT_le {L : Nat → Vec → Int} {u : Vec} : ∀ {n i : Nat}, i < n → ((L i u).natAbs : Int) ≤ absT L u n ∧ 0 ≤ absT L u n
  | n + 1, i, h => by
    have h0 : 0 ≤ absT L u n := by
      rcases Nat.eq_zero_or_pos n with e | e
      · subst e; simp [absT]
      · exact (absT_le (n := n) (i := 0) e).2
    rw [absT]
    by_cases c : i = n
    · subst c; omega
    · have := absT_le (L := L) (u := u) (n := n) (i := i) (by omega)
      omega
theorem ext_same {L L' : Nat → Vec → Int} {r r' c : Nat} (hL : LinF L) (hL' : LinF L') (he : ∀ q, InC L r q ↔ InC L' r' q) {v : Vec} (h : ExtT L r c v) : ExtT L' r' c v := by
  refine ⟨(he v).1 h.mem, h.nz, fun u hu => h.ext u fun i hi h0 => ?_⟩
  have hm := (he v).1 h.mem
  have key : ∀ s : Int, s = 1 ∨ s = -1 → InC L' r' (mixV (1 + absT L' u r') s v u) := fun s hs i hi => by
    rw [hL']
    have h1 := absT_le (L := L') (u := u) hi
    have h2 := hm i hi
    by_cases hz : L' i v = 0
    · rw [hz, hu i hi hz]; omega
    · have h3 : (1 + absT L' u r') * 1 ≤ (1 + absT L' u r') * L' i v := Int.mul_le_mul_of_nonneg_left (by omega) (by omega)
      rcases hs with rfl | rfl <;> omega
  have p := (he _).2 (key 1 (.inl rfl)) i hi
  have q := (he _).2 (key (-1) (.inr rfl)) i hi
  rw [hL, h0] at p q
  omega
def dv (c : Nat) (u w : Vec) : Int := sg (fun k => u k * w k) c
theorem dv_comm {c : Nat} {u w : Vec} : dv c u w = dv c w u := sg_congr fun k _ => Int.mul_comm _ _
theorem dv_loc (c : Nat) (u : Vec) : LocF c (dv c u) := by
  refine ⟨fun a b p q => ?_, fun p q h => sg_congr fun k hk => by rw [h k hk]⟩
  unfold dv
  rw [← sg_mul, ← sg_mul, ← sg_add]
  exact sg_congr fun k _ => by simp only [mixV]; grind
theorem rowP_dv {xs : List Int} {o c : Nat} {q : Vec} : rowP xs o c q = dv c (fun k => xs.getD (o + k) 0) q := rfl
theorem flat_cell {c : Nat} {L : List (List Int)} (hL : ∀ v ∈ L, v.length = c) {i k : Nat} (hi : i < L.length) (hk : k < c) : L.flatten.getD (i * c + k) 0 = (L.getD i []).getD k 0 := by
  have h := flat_row hL hi
  rw [← h, subX]
  simp only [List.getD_eq_getElem?_getD, List.getElem?_take_of_lt hk, List.getElem?_drop]
theorem rowP_flat {c : Nat} {L : List (List Int)} (hL : ∀ v ∈ L, v.length = c) {i : Nat} (hi : i < L.length) {q : Vec} : rowP L.flatten (i * c) c q = dv c (vecL (L.getD i [])) q := sg_congr fun k hk => by
  rw [flat_cell hL hi hk]; rfl
theorem inC_flat {c : Nat} {L : List (List Int)} (hL : ∀ v ∈ L, v.length = c) {q : Vec} : InC (fun i => rowP L.flatten (i * c) c) L.length q ↔ ∀ v ∈ L, 0 ≤ dv c (vecL v) q := by
  constructor
  · intro h v hv
    obtain ⟨i, hi, rfl⟩ := List.mem_iff_getElem.1 hv
    have := h i hi
    dsimp only at this
    rw [rowP_flat hL hi, getD_in hi] at this
    exact this
  · intro h i hi
    show 0 ≤ rowP _ _ _ _
    rw [rowP_flat hL hi, getD_in hi]
    exact h _ (List.getElem_mem hi)
theorem rays_nonneg {a b : Nat} {xs : List Int} {raw : List (List Int)} (hC : coneM a b xs = true) (hx : xs.length = a * b) (hn : xs.all numB = true) (hb1 : 1 ≤ b) (hb : b ≤ 3) (hp : pointB a b xs = true) (hr : rawO a b xs = some raw) {F : Vec → Int} (hF : LocF b F) (h : ∀ v ∈ raw, 0 ≤ F (vecL v)) {q : Vec} (hq : InC (fun i => rowP xs (i * b) b) a q) : 0 ≤ F q := by
  refine GenC.nonneg hF (fun v hv => ?_) (gen_ext lin_rows (pt_of hx hn hp) hq)
  obtain ⟨u, hu, m, hm, he⟩ := ext_ray hC hx hn hb1 hb hr hv
  have e1 : F v = F (mixV m 0 (vecL u) (vecL u)) := hF.2 _ _ fun k hk => by rw [he k hk]; simp [mixV]
  rw [e1, hF.1]
  have := Int.mul_nonneg (Int.le_of_lt hm) (h u hu)
  omega
theorem rays_back {a b : Nat} {xs : List Int} {L Lf Lb : List (List Int)} (h1 : raysO a b xs = some L) (h2 : raysO L.length b L.flatten = some Lf) (h3 : raysO Lf.length b Lf.flatten = some Lb) : Lb = L := by
  obtain ⟨a', b', raw, e1, e2, ha, hb1, hb, hx, hn, hC, hp, hr, rfl⟩ := raysO_some h1
  have : a = a' := by omega
  subst this
  have : b = b' := by omega
  subst this
  have hL : ∀ v ∈ addsL raw, v.length = b := fun v hv => (cand_row hx hn hC hb1 hr v (mem_addsL.1 hv)).1
  obtain ⟨a2, b2, raw2, f1, f2, -, -, -, hx2, hn2, hC2, hp2, hr2, rfl⟩ := raysO_some h2
  have : (addsL raw).length = a2 := by omega
  subst this
  have : b = b2 := by omega
  subst this
  have hL2 : ∀ v ∈ addsL raw2, v.length = b := fun v hv => (cand_row hx2 hn2 hC2 hb1 hr2 v (mem_addsL.1 hv)).1
  obtain ⟨a3, b3, raw3, g1, g2, -, -, -, hx3, hn3, hC3, hp3, hr3, rfl⟩ := raysO_some h3
  have : (addsL raw2).length = a3 := by omega
  subst this
  have : b = b3 := by omega
  subst this
  have inH : ∀ v ∈ addsL raw, InC (fun i => rowP xs (i * b) b) a (vecL v) := fun v hv => ((raw_iff hC hx hn hb1 hb hr v).1 (mem_addsL.1 hv)).ext.mem
  have inR : ∀ f ∈ addsL raw2, ∀ v ∈ addsL raw, 0 ≤ dv b (vecL v) (vecL f) := fun f hf => (inC_flat hL).1 ((raw_iff hC2 hx2 hn2 hb1 hb hr2 f).1 (mem_addsL.1 hf)).ext.mem
  have he : ∀ q, InC (fun i => rowP xs (i * b) b) a q ↔ InC (fun i => rowP (addsL raw2).flatten (i * b) b) (addsL raw2).length q := fun q => by
    rw [inC_flat hL2]
    constructor
    · intro hq f hf
      exact rays_nonneg hC hx hn hb1 hb hp hr (dv_loc b (vecL f)) (fun v hv => by rw [dv_comm]; exact inR f hf v (mem_addsL.2 hv)) hq
    · intro hq i hi
      show 0 ≤ rowP _ _ _ _
      rw [rowP_dv, dv_comm]
      refine rays_nonneg hC2 hx2 hn2 hb1 hb hp2 hr2 (dv_loc b q) (fun f hf => by rw [dv_comm]; exact hq f (mem_addsL.2 hf)) ((inC_flat hL).2 fun v hv => ?_)
      rw [dv_comm]
      exact inH v hv i hi
  refine strict_ext (addsL_strict _) (addsL_strict _) fun v => ?_
  rw [mem_addsL, mem_addsL, raw_iff hC3 hx3 hn3 hb1 hb hr3, raw_iff hC hx hn hb1 hb hr]
  exact ⟨fun h => ⟨h.len, ext_same lin_rows lin_rows (fun q => (he q).symm) h.ext, h.prim⟩, fun h => ⟨h.len, ext_same lin_rows lin_rows he h.ext, h.prim⟩⟩
theorem row_dual {a b : Nat} {xs : List Int} {L : List (List Int)} (h1 : raysO a b xs = some L) (hC2 : coneM L.length b L.flatten = true) {i : Nat} (hi : i < a) : inConeB L.length b L.flatten (subX xs (i * b) b) = true := by
  obtain ⟨a', b', raw, e1, e2, ha, hb1, hb, hx, hn, hC, hp, hr, rfl⟩ := raysO_some h1
  have : a = a' := by omega
  subst this
  have : b = b' := by omega
  subst this
  have hL : ∀ v ∈ addsL raw, v.length = b := fun v hv => (cand_row hx hn hC hb1 hr v (mem_addsL.1 hv)).1
  have hin : i * b + b ≤ xs.length := by
    rw [hx]
    have := Nat.mul_le_mul_right b (show i + 1 ≤ a by omega)
    rw [Nat.add_mul, Nat.one_mul] at this; exact this
  refine (inCone_iff hC2).2 ⟨subX_len hin, List.all_eq_true.2 fun x hx => List.all_eq_true.1 hn x (List.mem_of_mem_drop (List.mem_of_mem_take hx)), (inC_flat hL).2 fun v hv => ?_⟩
  have := ((raw_iff hC hx hn hb1 hb hr v).1 (mem_addsL.1 hv)).ext.mem i hi
  rw [rowP_dv, dv_comm] at this
  have e : dv b (vecL v) (fun k => xs.getD (i * b + k) 0) = dv b (vecL v) (vecL (subX xs (i * b) b)) := (dv_loc b (vecL v)).2 _ _ fun k hk => by
    simp only [vecL, subX, List.getD_eq_getElem?_getD, List.getElem?_take_of_lt hk, List.getElem?_drop]
  rw [← e]; exact this
theorem rowP_cells' {r c : Nat} {xs : List Int} {is : List Nat} {p : Nat} {q : Vec} (hx : xs.length = r * c) (hp : p < is.length) (hi : ∀ i ∈ is, i < r := by exact fun p hp => tightN_lt p hp) : rowP (pickR xs c is) (p * c) c q = rowP xs (is.getD p 0 * c) c q := sg_congr fun l hl => by
  rw [pickR_at hx hi hp hl]
theorem ray_rank {a b k : Nat} {xs v : List Int} {L : List (List Int)} (h1 : raysO a b xs = some L) (hv : v ∈ L) (hk : rankB ((tightN xs b v a).length : Nat) b (pickR xs b (tightN xs b v a)) = some k) : extB a b xs v = true := by
  obtain ⟨a', b', raw, e1, e2, ha, hb1, hb, hx, hn, hC, hp, hr, rfl⟩ := raysO_some h1
  have : a = a' := by omega
  subst this
  have : b = b' := by omega
  subst this
  have hR := (raw_iff hC hx hn hb1 hb hr v).1 (mem_addsL.1 hv)
  have hI : inConeB a b xs v = true := (inCone_iff hC).2 ⟨hR.len, (cand_row hx hn hC hb1 hr v (mem_addsL.1 hv)).2, hR.ext.mem⟩
  have hT : (pickR xs b (tightN xs b v a)).length = (tightN xs b v a).length * b := pickR_len hx fun p hp => tightN_lt p hp
  have hTn : (pickR xs b (tightN xs b v a)).all numB = true := pick_num hn
  have hro : rankO (pickR xs b (tightN xs b v a)) (tightN xs b v a).length b = some k := by
    unfold rankB at hk
    split at hk
    · rw [Int.toNat_natCast, Int.toNat_natCast] at hk; exact hk
    · cases hk
  have hker : ∀ q, KerX (tightN xs b v a).length b (pickR xs b (tightN xs b v a)) q ↔ ∀ i, i < a → rowP xs (i * b) b (vecL v) = 0 → rowP xs (i * b) b q = 0 := fun q => by
    have hrow : ∀ p, p < (tightN xs b v a).length → rowP (pickR xs b (tightN xs b v a)) (p * b) b q = rowP xs ((tightN xs b v a).getD p 0 * b) b q := fun p hp => rowP_cells' hx hp
    constructor
    · intro h i hi h0
      have hm : i ∈ tightN xs b v a := by
        simp only [tightN, List.mem_filter, List.mem_range, decide_eq_true_eq]
        exact ⟨hi, by rw [dotR_row]; exact h0⟩
      obtain ⟨p, hp, e⟩ := List.mem_iff_getElem.1 hm
      have := h p hp
      rw [hrow p hp, getD_in hp, e] at this
      exact this
    · intro h p hp
      rw [hrow p hp, getD_in hp]
      have hm := List.getElem_mem hp
      have hlt := tightN_lt _ hm
      simp only [tightN, List.mem_filter, List.mem_range, decide_eq_true_eq] at hm
      refine h _ hlt ?_
      rw [← dotR_row]
      exact hm.2
  have hpar : ∀ q, KerX (tightN xs b v a).length b (pickR xs b (tightN xs b v a)) q → parN b q (vecL v) := fun q hq => hR.ext.ext q fun i hi h0 => (hker q).1 hq i hi h0
  have hle := rank_le hT hTn hro
  have hkb : (k : Int) = (b : Int) - 1 := by
    rcases Nat.lt_trichotomy (k + 1) b with c | c | c
    · obtain ⟨p, q, h2, h3, h4⟩ := rank_low hT hTn hb hro (by omega)
      exact absurd (par_trans hR.ext.nz (hpar p h2) (hpar q h3)) h4
    · omega
    · have : k = b := by omega
      subst this
      obtain ⟨l, hl, h0⟩ := hR.ext.nz
      exact absurd (rank_ker0 hT hTn hro (vecL v) ((hker _).2 fun i hi h => h) l hl) h0
  rw [extB, hp, hI, Int.toNat_natCast, Int.toNat_natCast, hk]
  simp [hkb]
end Go.Proofs.YtfkbjkmlpinoeaaGreat
namespace Go.Proofs.YtfkbjkmlpinoeaaGreat
open Go.RowKit
set_option maxRecDepth 100000 in
set_option maxHeartbeats 4000000 in
theorem d_tightL (a b m : Nat) (xs ys : List Int) (ca cb : Nat) (hm : m = ys.length) (hl : xs.length ≤ 1099511627776) (hca : xs.length ≤ ca) (ha : a ≤ 8) (hb1 : 1 ≤ b) (hb : b ≤ 3) (hx : xs.length = a * b) (hnum : xs.all numB = true) (hyl : ys.length = b) (hyn : ys.all numB = true) :
    Does Tryz.prog 15 [vM a b 1 xs.length ca, vS 2 1 0 m cb] [(1, .ro (.ints xs)), (2, .ro (.ints ys))] 3 (FromR (tightN xs b ys a).length b 3 (pickR xs b (tightN xs b ys a)) 3) := by
  subst hm
  refine Does.intro TT Tryz.func15 rfl (by kernel_rfl) Zz Zz fun E hE => ?_
  ((repeat' (first | refine stx ?_ | (refine stq ?_ ?_ <;> (intro hc; ((try simp at hc) <;> try contradiction))) | fail)) <;> try (exfalso; omega))
  refine awp_nil (k := 5) (f := 2) (sz := 1) (et := 3) (e0 := .ints []) Zz Zz Zz Zz (fun _ h => by cases h) ?_
  refine w_G hE (fun i : Nat × Nat => i.1 ≤ a ∧ (pickR xs b (tightN xs b ys i.1)).length ≤ i.2) (fun i => a - i.1)
    (fun i => [(1, vS 2 1 0 ys.length cb), (2, .one (.ptr 3 3 0 0)), (4, .one (.ptr 4 3 0 0)), (5, .one (.ptr 5 3 0 0)), (6, vI i.1)])
    (fun i => [(1, .ro (.ints xs)), (2, .ro (.ints ys)), (3, .own 26 1 (.lit [.int a, .int b, .sl 1 1 0 xs.length ca])), (4, .own 26 1 (.lit zeroM)), (5, .own 26 1 (.lit [.int ((tightN xs b ys i.1).length : Nat), .int b, .sl 6 1 0 (pickR xs b (tightN xs b ys i.1)).length i.2])), (6, .own 3 i.2 (.ints (pickR xs b (tightN xs b ys i.1))))]) 7 [] (0, 0) ⟨Nat.zero_le _, Nat.zero_le _⟩ ⟨w_1, w_2, rfl⟩ ?_
  rintro ⟨i, cap⟩ ⟨hi, hcap⟩
  dsimp only at hi hcap
  have tl := tightN_len (xs := xs) (c := b) (ys := ys) (i := i)
  have pl : (pickR xs b (tightN xs b ys i)).length = (tightN xs b ys i).length * b := pickR_len hx fun p hp => by have := tightN_lt p hp; omega
  have pl2 : (tightN xs b ys i).length * b ≤ 8 * 3 := Nat.mul_le_mul (by omega) hb
  by_cases hia : i < a
  · have hian : ¬ a ≤ i := by omega
    obtain ⟨q1, q2, q3, q4, q5⟩ := sl_row (ca := ca) hia hb1 hx hca
    have hn := tightN_next (xs := xs) (c := b) (ys := ys) (i := i)
    have ei : ((i : Int) * b) = ((i * b : Nat) : Int) := by simp
    ((repeat' (first | refine stx ?_ | (refine stq ?_ ?_ <;> (intro hc; ((try simp at hc) <;> try contradiction))) | fail)) <;> try (exfalso; omega))
    refine w_G hE (fun j : Nat => j ≤ b) (fun j => b - j)
      (fun j => [(1, vS 2 1 0 ys.length cb), (2, .one (.ptr 3 3 0 0)), (4, .one (.ptr 4 3 0 0)), (5, .one (.ptr 5 3 0 0)), (6, vI i), (7, vI (prodTo xs (i * b) ys j)), (8, vI j)])
      (fun j => [(1, .ro (.ints xs)), (2, .ro (.ints ys)), (3, .own 26 1 (.lit [.int a, .int b, .sl 1 1 0 xs.length ca])), (4, .own 26 1 (.lit zeroM)), (5, .own 26 1 (.lit [.int ((tightN xs b ys i).length : Nat), .int b, .sl 6 1 0 (pickR xs b (tightN xs b ys i)).length cap])), (6, .own 3 cap (.ints (pickR xs b (tightN xs b ys i))))]) 7 [] 0 (Nat.zero_le _) ⟨w_1, w_2, rfl⟩ ?_
    intro j hj
    by_cases hjb : j < b
    · have hjn : ¬ b ≤ j := by omega
      have hjy : ¬ ys.length ≤ j := by omega
      have hjy2 : j < ys.length := by omega
      have e1 : (0 + ((i : Int) * b + j).toNat) = i * b + j := by rw [ei]; omega
      have e2 : (0 + (j : Int).toNat) = j := by omega
      have b1 := prodTo_bd (o := i * b) hnum hyn j
      have b2 := prodTo_bd (o := i * b) hnum hyn (j + 1)
      rw [prodTo, ← e1] at b2
      have hp : -160000000000000000 ≤ xs.getD (0 + ((i : Int) * b + j).toNat) 0 * ys.getD (0 + (j : Int).toNat) 0 ∧ xs.getD (0 + ((i : Int) * b + j).toNat) 0 * ys.getD (0 + (j : Int).toNat) 0 ≤ 160000000000000000 := prod_getD hnum hyn _ _
      have es : prodTo xs (i * b) ys j + xs.getD (0 + ((i : Int) * b + j).toNat) 0 * ys.getD (0 + (j : Int).toNat) 0 = prodTo xs (i * b) ys (j + 1) := by rw [e1, e2, prodTo]
      ((repeat' (first | refine stx ?_ | (refine stq ?_ ?_ <;> (intro hc; ((try simp at hc) <;> try contradiction))) | fail)) <;> try (exfalso; omega))
      exact ⟨[], j + 1, hjb, w_4, ⟨⟨rfl, rfl, rfl, rfl, rfl, congrArg some (congrArg vI es), rfl, trivial⟩, ⟨rfl, rfl, rfl, rfl, rfl, rfl, trivial⟩, rfl⟩⟩
    · obtain rfl : j = b := by omega
      have hjy : ¬ j < ys.length := by omega
      have hdr : prodTo xs (i * j) ys j = dotR xs j ys i := rfl
      rw [hdr]
      by_cases hz0 : dotR xs j ys i = 0
      · rw [if_pos hz0] at hn
        ((repeat' (first | refine stp ?_ | (refine stq ?_ ?_ <;> (intro hc; ((try simp at hc) <;> try contradiction))) | fail)) <;> try (exfalso; omega))
        refine awp_held TM [(3, _)] sb rfl (fun ρs => ?_)
        refine zt2 ?_
        refine zt3 ?_
        refine zt4 ?_
        refine zt5 ?_
        refine zt6 ?_
        refine zt7 ?_
        refine zt8 ?_
        refine zt9 ?_
        refine zt10 ?_
        refine zt11 ?_
        refine zt12 ?_
        refine zt13 ?_
        refine w_u [0] kr rfl ⟨?_, trivial⟩
        first | (refine zho ?_) | (refine w_y TT _ Zz Zz Zz Zz Zz Zz sd sb Zz Zz ?_; intro cap hcap)
        refine w_u [1] kr rfl ⟨?_, trivial⟩
        first | (refine zho ?_) | (refine w_y TT _ Zz Zz Zz Zz Zz Zz sd sb Zz Zz ?_; intro cap hcap)
        refine w_u [14] kr rfl ⟨?_, trivial⟩
        first | (refine zho ?_) | (refine w_y TT _ Zz Zz Zz Zz Zz Zz sd sb Zz Zz ?_; intro cap hcap)
        refine w_u [15] kr rfl ⟨?_, trivial⟩
        first | (refine zho ?_) | (refine w_y TT _ Zz Zz Zz Zz Zz Zz sd sb Zz Zz ?_; intro cap hcap)
        refine w_u [16] kr rfl ⟨?_, trivial⟩
        first | (refine zho ?_) | (refine w_y TT _ Zz Zz Zz Zz Zz Zz sd sb Zz Zz ?_; intro cap hcap)
        refine w_v kr ?_
        rotate_left
        all_goals ((repeat' (first | refine stx ?_ | (refine stq ?_ ?_ <;> (intro hc; ((try simp at hc) <;> try contradiction))) | fail)) <;> try (exfalso; omega))
        all_goals
          have en : pickR xs j (tightN xs j ys (i + 1)) = pickR xs j (tightN xs j ys i) ++ (xs.drop (slOff 0 ((i : Int) * j).toNat ca)).take ((((i : Int) + 1) * j).toNat - ((i : Int) * j).toNat) := by rw [hn, pickR_next, q1, q2]
          have el : (pickR xs j (tightN xs j ys i)).length + ((((i : Int) + 1) * j).toNat - ((i : Int) * j).toNat) = (pickR xs j (tightN xs j ys (i + 1))).length := by
            rw [en, List.length_append, List.length_take, List.length_drop]; omega
          have er : (((tightN xs j ys i).length : Nat) : Int) + 1 = (((tightN xs j ys (i + 1)).length : Nat) : Int) := by rw [hn]; simp
          exact ⟨[(6, 7)], (i + 1, cap), ⟨by dsimp only; omega, by dsimp only; omega⟩, w_4, ⟨w_1, ⟨rfl, rfl, rfl, rfl, own_litM er el, own_ints en.symm, trivial⟩, rfl⟩⟩
      · rw [if_neg hz0] at hn
        ((repeat' (first | refine stx ?_ | (refine stq ?_ ?_ <;> (intro hc; ((try simp at hc) <;> try contradiction))) | fail)) <;> try (exfalso; omega))
        exact ⟨[], (i + 1, cap), ⟨by dsimp only; omega, by dsimp only; rw [hn]; exact hcap⟩, w_4, ⟨w_1, ⟨rfl, rfl, rfl, rfl, own_litM (by rw [hn]) (by rw [hn]), own_ints (by rw [hn]), trivial⟩, rfl⟩⟩
  · obtain rfl : i = a := by omega
    ((repeat' (first | refine stx ?_ | (refine stq ?_ ?_ <;> (intro hc; ((try simp at hc) <;> try contradiction))) | fail)) <;> try (exfalso; omega))
    exact fin rfl w_3 [(3, 6)] (.agg [.int ((tightN xs b ys i).length : Nat), .int b, .sl 3 1 0 (pickR xs b (tightN xs b ys i)).length cap]) [(3, .own 3 cap (.ints (pickR xs b (tightN xs b ys i))))] 4 ⟨cap, hcap, rfl, rfl, rfl⟩ rfl ⟨trivial, ⟨rfl, trivial⟩, rfl⟩ rfl
end Go.Proofs.YtfkbjkmlpinoeaaGreat
namespace Go.Proofs.YtfkbjkmlpinoeaaGreat
open Go.RowKit
theorem and255 (x : Int) : 0 ≤ bitV .and x 255 ∧ bitV .and x 255 ≤ 255 := by
  unfold bitV
  have h : (BitVec.ofInt 64 x &&& BitVec.ofInt 64 255).toNat ≤ 255 := by
    rw [BitVec.toNat_and]
    exact Nat.le_trans Nat.and_le_right (by decide)
  have e : bits .and .i64 x 255 = IntKind.i64.wrap ((BitVec.ofInt 64 x &&& BitVec.ofInt 64 255).toNat : Nat) := rfl
  rw [e, IntKind.wrap_i64]
  omega
def curL (c n i : Nat) (h : Int) : List SV := [.sl 1 1 0 n c, .int i, .int h]
def vC : AV := .one (.ptr 2 3 0 0)
def Drew (t : TypeId) (n c : Nat) (φ : Int → Prop) (v : AV) (Hout : List (Nat × Blk)) (n1 : Nat) : Prop :=
  ∃ (r : Int) (i : Nat) (h : Int), φ r ∧ v = vI r ∧ Hout = [(2, .own t 1 (.lit (curL c n i h)))] ∧ n1 = 3
theorem d_big (bs : List Int) (c : Nat) : Does Tryz.prog 10 [vS 1 1 0 bs.length c] [(1, .ro (.bytes bs))] 2 (Ret (vB (decide (1048576 < (bs.length : Int)))) 2) := by
 refine Does.intro TT Tryz.func10 rfl (by kernel_rfl) Zz Zz fun E hE => ?_
 (repeat' (first | refine stx ?_ | (refine stq ?_ ?_ <;> (intro hc; ((try simp at hc) <;> try contradiction))) | fail))
 refine fin_ret rfl w_3 (rfl) rfl
def NewC (t : TypeId) (n c : Nat) (v : AV) (Hout : List (Nat × Blk)) (n1 : Nat) : Prop :=
  ∃ (i : Nat) (h : Int), v = vC ∧ Hout = [(2, .own t 1 (.lit (curL c n i h)))] ∧ n1 = 3
set_option maxHeartbeats 1000000 in
theorem d_l1New (bs : List Int) (c : Nat) (hl : bs.length ≤ 1048576) : Does Tryz.prog 43 [vS 1 1 0 bs.length c] [(1, .ro (.bytes bs))] 2 (NewC 90 bs.length c) := by
 refine Does.intro TT Tryz.func43 rfl (by kernel_rfl) Zz Zz fun E hE => ?_
 (repeat' (first | refine stx ?_ | (refine stq ?_ ?_ <;> (intro hc; ((try simp at hc) <;> try contradiction))) | fail))
 refine w_G hE (fun p : Int × Int => 0 ≤ p.1 ∧ p.1 ≤ bs.length) (fun p => bs.length - p.1.toNat)
  (fun p => [(0, vS 1 1 0 bs.length c), (3, vI p.2), (4, vI p.1)]) (fun _ => [(1, .ro (.bytes bs))]) 2 [] (0, 10101 + bs.length) ⟨Int.le_refl _, by dsimp only; omega⟩ ⟨w_1, w_2, rfl⟩ ?_
 rintro ⟨i, h⟩ ⟨h0, h1⟩
 dsimp only at h0 h1 ⊢
 ((repeat' (first | refine stx ?_ | (first | refine awpL_wrap Zz Zz Zz Zz ?_ | refine awpQ_wrap Zz Zz Zz Zz ?_) | (refine stq ?_ ?_ <;> (intro hc; ((try simp at hc) <;> try contradiction))) | fail)) <;> try (exfalso; omega))
 ·exact ⟨[], (i + 1, _), ⟨by dsimp only; omega, by dsimp only; omega⟩, w_4, ⟨⟨rfl, rfl, rfl, trivial⟩, ⟨rfl, trivial⟩, rfl⟩⟩
 all_goals exact fin rfl w_3 [(2, 2)] vC [(2, .own 90 1 (.lit (curL c bs.length 0 h)))] 3 ⟨0, h, rfl, rfl, rfl⟩ rfl ⟨trivial, ⟨rfl, trivial⟩, rfl⟩ rfl
set_option maxHeartbeats 1000000 in
theorem d_l1Byte (bs : List Int) (c i : Nat) (h : Int) (hl : bs.length ≤ 1048576) : Does Tryz.prog 121 [vC] [(1, .ro (.bytes bs)), (2, .own 90 1 (.lit (curL c bs.length i h)))] 3 (Drew 90 bs.length c fun r => 0 ≤ r ∧ r ≤ 255) := by
 refine Does.intro TT Tryz.func121 rfl (by kernel_rfl) Zz Zz fun E hE => ?_
 ((repeat' (first | refine stx ?_ | (first | refine awpL_wrap Zz Zz Zz Zz ?_ | refine awpQ_wrap Zz Zz Zz Zz ?_) | (refine stq ?_ ?_ <;> (intro hc; ((try simp at hc) <;> try contradiction))) | fail)) <;> try (exfalso; omega))
 ·exact fin rfl w_3 [] (vI _) [(2, .own 90 1 (.lit (curL c bs.length (i + 1) _)))] 3 ⟨_, _, _, and255 _, rfl, rfl, rfl⟩ rfl ⟨trivial, ⟨rfl, trivial⟩, rfl⟩ rfl
 ·exact fin rfl w_3 [] (vI _) [(2, .own 90 1 (.lit (curL c bs.length i _)))] 3 ⟨_, _, _, and255 _, rfl, rfl, rfl⟩ rfl ⟨trivial, ⟨rfl, trivial⟩, rfl⟩ rfl
theorem tmod_in' {x n : Int} (h : 0 ≤ x) : 0 ≤ x.tmod n ∧ (0 < n → x.tmod n < n) := by
  refine ⟨Int.tmod_nonneg n h, fun hn => ?_⟩
  rw [Int.tmod_eq_emod_of_nonneg h]
  exact Int.emod_lt_of_pos x hn
set_option maxHeartbeats 1000000 in
theorem d_l1Below (bs : List Int) (c i : Nat) (h : Int) (n : Int) (hl : bs.length ≤ 1048576) : Does Tryz.prog 90 [vC, vI n] [(1, .ro (.bytes bs)), (2, .own 90 1 (.lit (curL c bs.length i h)))] 3 (Drew 90 bs.length c fun r => 0 ≤ r ∧ (0 < n → r < n)) := by
 refine Does.intro TT Tryz.func90 rfl (by kernel_rfl) Zz Zz fun E hE => ?_
 ((repeat' (first | refine stx ?_ | ((refine w_E (d_l1Byte bs c _ _ hl) Zz Zz Zz Zz Zz Zz Zz ft rfl ?_); rintro v Hout n1 ⟨r, i', h', hr, rfl, rfl, rfl⟩) | (refine stq ?_ ?_ <;> (intro hc; ((try simp at hc) <;> try contradiction))) | fail)) <;> try (exfalso; omega))
 ·exact fin rfl w_3 [] (vI 0) [(2, .own 90 1 (.lit (curL c bs.length i h)))] 3 ⟨_, _, _, ⟨by omega, by omega⟩, rfl, rfl, rfl⟩ rfl ⟨trivial, ⟨rfl, trivial⟩, rfl⟩ rfl
 all_goals exact fin rfl w_3 [] (vI _) [(2, .own 90 1 (.lit (curL c bs.length _ _)))] 3 ⟨_, _, _, tmod_in' (by omega), rfl, rfl, rfl⟩ rfl ⟨trivial, ⟨rfl, trivial⟩, rfl⟩ rfl
def DrewB (t : TypeId) (n c : Nat) (v : AV) (Hout : List (Nat × Blk)) (n1 : Nat) : Prop :=
  ∃ (b : Bool) (i : Nat) (h : Int), v = vB b ∧ Hout = [(2, .own t 1 (.lit (curL c n i h)))] ∧ n1 = 3
theorem d_l1Once (bs : List Int) (c i : Nat) (h : Int) (n : Int) (hl : bs.length ≤ 1048576) : Does Tryz.prog 92 [vC, vI n] [(1, .ro (.bytes bs)), (2, .own 90 1 (.lit (curL c bs.length i h)))] 3 (DrewB 90 bs.length c) := by
 refine Does.intro TT Tryz.func92 rfl (by kernel_rfl) Zz Zz fun E hE => ?_
 ((repeat' (first | refine stx ?_ | ((refine w_E (d_l1Below bs c _ _ n hl) Zz Zz Zz Zz Zz Zz Zz ft rfl ?_); rintro v Hout n1 ⟨r, i', h', hr, rfl, rfl, rfl⟩) | (refine stq ?_ ?_ <;> (intro hc; ((try simp at hc) <;> try contradiction))) | fail)) <;> try (exfalso; omega))
 exact fin rfl w_3 [] (vB _) [(2, .own 90 1 (.lit (curL c bs.length _ _)))] 3 ⟨_, _, _, rfl, rfl, rfl⟩ rfl ⟨trivial, ⟨rfl, trivial⟩, rfl⟩ rfl
theorem d_l1PickInt (bs : List Int) (c i : Nat) (h : Int) (xs : List Int) (n cx : Nat) (hn : n = xs.length) (h0 : 0 < n) (hl : bs.length ≤ 1048576) : Does Tryz.prog 123 [vC, vS 3 1 0 n cx] [(1, .ro (.bytes bs)), (2, .own 90 1 (.lit (curL c bs.length i h))), (3, .ro (.ints xs))] 4 (fun v Hout n1 => ∃ (r : Int) (i : Nat) (h : Int), r ∈ xs ∧ v = vI r ∧ Hout = [(2, .own 90 1 (.lit (curL c bs.length i h)))] ∧ n1 = 4) := by
 refine Does.intro TT Tryz.func123 rfl (by kernel_rfl) Zz Zz fun E hE => ?_
 ((repeat' (first | refine stx ?_ | ((refine w_E (d_l1Below bs c _ _ n hl) Zz Zz Zz Zz Zz Zz Zz ft rfl ?_); rintro v Hout n1 ⟨r, i', h', ⟨hr1, hr2⟩, rfl, rfl, rfl⟩; replace hr2 := hr2 (by omega)) | (refine stq ?_ ?_ <;> (intro hc; ((try simp at hc) <;> try contradiction))) | fail)) <;> try (exfalso; omega))
 have hlt : 0 + r.toNat < xs.length := by omega
 exact fin rfl w_3 [] (vI _) [(2, .own 90 1 (.lit (curL c bs.length _ _)))] 4 ⟨_, _, _, (by rw [List.getD_eq_getElem?_getD, List.getElem?_eq_getElem hlt]; exact List.getElem_mem hlt), rfl, rfl, rfl⟩ rfl ⟨trivial, ⟨rfl, trivial⟩, rfl⟩ rfl
theorem d_l1Odd (bs : List Int) (c i : Nat) (h : Int) (hl : bs.length ≤ 1048576) : Does Tryz.prog 124 [vC] [(1, .ro (.bytes bs)), (2, .own 90 1 (.lit (curL c bs.length i h)))] 3 (Drew 90 bs.length c fun r => -9223372036854775808 ≤ r ∧ r ≤ 9223372036854775807) := by
 refine Does.intro TT Tryz.func124 rfl (by kernel_rfl) Zz Zz fun E hE => ?_
 ((repeat' (first | refine stx ?_ | ((refine w_E (d_l1PickInt bs c _ _ [0, 1, -1, 2, 400000000, -400000000, 400000001, -400000001, 399999999, 9223372036854775807, -9223372036854775808] 11 _ rfl (by omega) hl) Zz Zz Zz Zz Zz Zz Zz ft rfl ?_); rintro v Hout n1 ⟨r, i', h', hr, rfl, rfl, rfl⟩) | (refine stq ?_ ?_ <;> (intro hc; ((try simp at hc) <;> try contradiction))) | fail)) <;> try (exfalso; omega))
 exact fin rfl w_3 [] (vI _) [(2, .own 90 1 (.lit (curL c bs.length _ _)))] 3 ⟨_, _, _, (by simp at hr; omega), rfl, rfl, rfl⟩ rfl ⟨trivial, ⟨rfl, trivial⟩, rfl⟩ rfl
end Go.Proofs.YtfkbjkmlpinoeaaGreat
namespace Go.Proofs.YtfkbjkmlpinoeaaGreat
open Go.RowKit
def DrewM (t tc : TypeId) (nb c : Nat) (k : Int) (v : AV) (Hout : List (Nat × Blk)) (n1 : Nat) : Prop :=
  ∃ (r : Int) (zs : List Int) (cap i : Nat) (h : Int), zs.length ≤ 1000 ∧ zs.length ≤ cap ∧ v = .agg [.int r, .int k, .sl 3 1 0 zs.length cap] ∧ Hout = [(2, .own tc 1 (.lit (curL c nb i h))), (3, .own t cap (.ints zs))] ∧ n1 = 4
def DrewD (t tc : TypeId) (nb c a b : Nat) (m : Int) (v : AV) (Hout : List (Nat × Blk)) (n1 : Nat) : Prop :=
  ∃ (zs : List Int) (i : Nat) (h : Int), zs.length = a * b ∧ (∀ p, -m ≤ zs.getD p 0 ∧ zs.getD p 0 ≤ m) ∧ v = .agg [.int a, .int b, .sl 3 1 0 (a * b) (a * b)] ∧ Hout = [(2, .own tc 1 (.lit (curL c nb i h))), (3, .own t (a * b) (.ints zs))] ∧ n1 = 4
set_option maxHeartbeats 2000000 in
theorem d_l3Draw (bs : List Int) (c i a b : Nat) (h m : Int) (ha : a ≤ 24) (hb : b ≤ 24) (hm : 0 ≤ m ∧ m ≤ 1000) (hl : bs.length ≤ 1048576) : Does Tryz.prog 91 [vC, vI a, vI b, vI m] [(1, .ro (.bytes bs)), (2, .own 90 1 (.lit (curL c bs.length i h)))] 3 (DrewD 3 90 bs.length c a b m) := by
 refine Does.intro TT Tryz.func91 rfl (by kernel_rfl) Zz Zz fun E hE => ?_
 have hab : a * b ≤ 24 * 24 := Nat.mul_le_mul ha hb
 ((repeat' (first | refine stx ?_ | (refine w_C (d_newS _ _ ha hb) Zz Zz Zz Zz Zz Zz Zz ft Zz Zz (NewM.out) ?_; rintro v b ⟨rfl, he, -⟩; cases he) | (refine stq ?_ ?_ <;> (intro hc; ((try simp at hc) <;> try contradiction))) | fail)) <;> try (exfalso; omega))
 refine w_G hE (fun x : Nat × List Int × Nat × Int => x.1 ≤ a * b ∧ x.2.1.length = a * b ∧ ∀ p, -m ≤ x.2.1.getD p 0 ∧ x.2.1.getD p 0 ≤ m) (fun x => a * b - x.1)
  (fun x => [(0, vC), (3, vI m), (8, .one (.ptr 3 3 0 0)), (9, .one (.ptr 5 3 0 0)), (10, vI x.1)]) (fun x => [(1, .ro (.bytes bs)), (2, .own 90 1 (.lit (curL c bs.length x.2.2.1 x.2.2.2))), (3, .own 26 1 (.lit zeroM)), (4, .own 3 (a * b) (.ints x.2.1)), (5, .own 26 1 (.lit [.int a, .int b, .sl 4 1 0 (a * b) (a * b)]))]) 6 [] (0, List.replicate (a * b) 0, i, h) ⟨Nat.zero_le _, List.length_replicate .., fun p => by
   rw [List.getD_eq_getElem?_getD, List.getElem?_replicate]
   split <;> (simp; omega)⟩ ⟨w_1, w_2, rfl⟩ ?_
 rintro ⟨k, zs, i1, h1⟩ ⟨hk, hz, hb⟩
 dsimp only at hk hz hb ⊢
 by_cases hkl : k < a * b
 ·((repeat' (first | refine stp ?_ | (refine stq ?_ ?_ <;> (intro hc; ((try simp at hc) <;> try contradiction))) | fail)) <;> try (exfalso; omega))
  refine awp_held TM [(5, _)] sb rfl (fun ρs => ?_)
  refine zt0 ?_
  refine zt1 ?_
  refine zt2 ?_
  refine zt3 ?_
  refine zt4 ?_
  refine zt5 ?_
  refine zt6 ?_
  refine zt8 ?_
  refine w_u [7] kr rfl ⟨?_, trivial⟩
  first | (refine zho ?_) | (refine w_F _ (d_l1Below bs c _ _ _ hl) Zz Zz Zz Zz Zz Zz Zz Zz ft Zz Zz ?_; rintro v Hout n1 ⟨r2, i2, h2, ⟨hr2, hr3⟩, rfl, rfl, rfl⟩; refine ⟨sb, ?_⟩; replace hr3 := hr3 (by omega))
  refine zt9 ?_
  refine zt10 ?_
  refine w_u [11] kr rfl ⟨?_, trivial⟩
  first | (refine zho ?_) | (refine w_F _ (d_l1Below bs c _ _ _ hl) Zz Zz Zz Zz Zz Zz Zz Zz ft Zz Zz ?_; rintro v Hout n1 ⟨r2, i2, h2, ⟨hr2, hr3⟩, rfl, rfl, rfl⟩; refine ⟨sb, ?_⟩; replace hr3 := hr3 (by omega))
  refine w_v kr ?_
  rotate_left
  all_goals ((repeat' (first | refine stp ?_ | (refine stq ?_ ?_ <;> (intro hc; ((try simp at hc) <;> try contradiction))) | fail)) <;> try (exfalso; omega))
  all_goals exact ⟨[], (k + 1, zs.set k (r2 - m), i2, h2), ⟨hkl, by dsimp only; rw [List.length_set]; exact hz, fun p => by
   dsimp only
   rw [List.getD_eq_getElem?_getD, List.getElem?_set]
   split
   ·split
    ·simp; omega
    ·simp; omega
   ·rw [← List.getD_eq_getElem?_getD]; exact hb p⟩, w_4, ⟨w_1, ⟨rfl, rfl, rfl, own_ints (by simp), rfl, trivial⟩, rfl⟩⟩
 ·obtain rfl : k = a * b := by omega
  ((repeat' (first | refine stx ?_ | (refine stq ?_ ?_ <;> (intro hc; ((try simp at hc) <;> try contradiction))) | fail)) <;> try (exfalso; omega))
  exact fin rfl w_3 [(3, 4)] (.agg [.int a, .int b, .sl 3 1 0 (a * b) (a * b)]) [(2, .own 90 1 (.lit (curL c bs.length i1 h1))), (3, .own 3 (a * b) (.ints zs))] 4 ⟨zs, i1, h1, hz, hb, rfl, rfl, rfl⟩ rfl ⟨trivial, ⟨rfl, rfl, trivial⟩, rfl⟩ rfl
def DrewV (t tc : TypeId) (nb c n : Nat) (v : AV) (Hout : List (Nat × Blk)) (n1 : Nat) : Prop :=
  ∃ (zs : List Int) (cap i : Nat) (h : Int), zs.length = n ∧ n ≤ cap ∧ (∀ p, -9223372036854775808 ≤ zs.getD p 0 ∧ zs.getD p 0 ≤ 9223372036854775807) ∧ v = vS 3 1 0 n cap ∧ Hout = [(2, .own tc 1 (.lit (curL c nb i h))), (3, .own t cap (.ints zs))] ∧ n1 = 4
def SpoilM (t tc : TypeId) (nb c : Nat) (k : Int) (v : AV) (Hout : List (Nat × Blk)) (n1 : Nat) : Prop :=
  ∃ (r : Int) (zs : List Int) (cap i : Nat) (h : Int), zs.length ≤ 1000 ∧ zs.length ≤ cap ∧ ((v = .agg [.int r, .int k, .sl 3 1 0 zs.length cap] ∧ Hout = [(2, .own tc 1 (.lit (curL c nb i h))), (3, .own t cap (.ints zs))] ∧ n1 = 4) ∨ (v = .agg [.int r, .int k, .sl 4 1 0 zs.length cap] ∧ Hout = [(2, .own tc 1 (.lit (curL c nb i h))), (4, .own t cap (.ints zs))] ∧ n1 = 5))
set_option maxHeartbeats 4000000 in
theorem d_l3Spoil (bs : List Int) (c i cap n : Nat) (h r k : Int) (xs : List Int) (hn : n = xs.length) (hr : 0 ≤ r ∧ r ≤ 1000) (hx : xs.length ≤ 900) (hcap : xs.length ≤ cap) (hl : bs.length ≤ 1048576) : Does Tryz.prog 93 [vC, vM r k 3 n cap] [(1, .ro (.bytes bs)), (2, .own 90 1 (.lit (curL c bs.length i h))), (3, .own 3 cap (.ints xs))] 4 (SpoilM 3 90 bs.length c k) := by
 subst hn
 refine Does.intro TT Tryz.func93 rfl (by kernel_rfl) Zz Zz fun E hE => ?_
 ((repeat' (first | refine stp ?_ | ((refine w_E (d_l1Below bs c _ _ 40 hl) Zz Zz Zz Zz Zz Zz Zz ft rfl ?_); rintro v Hout n1 ⟨r0, i0, h0, ⟨hr1, hr2⟩, rfl, rfl, rfl⟩; replace hr2 := hr2 (by omega)) | (refine stq ?_ ?_ <;> (intro hc; ((try simp at hc) <;> try contradiction))) | fail)) <;> try (exfalso; omega))
 ·subst hc
  ((repeat' (first | refine stp ?_ | ((refine w_E (d_l1PickInt bs c _ _ [-1, 0, 7, r + 1] 4 4 rfl (by decide) hl) Zz Zz Zz Zz Zz Zz Zz ft rfl ?_); rintro v Hout n1 ⟨r1, i1, h1, hm1, rfl, rfl, rfl⟩) | (refine stq ?_ ?_ <;> (intro hc; ((try simp at hc) <;> try contradiction))) | fail)) <;> try (exfalso; omega))
  all_goals exact fin rfl w_3 [] (.agg [.int r1, .int k, .sl 3 1 0 xs.length cap]) [(2, .own 90 1 (.lit (curL c bs.length i1 h1))), (3, .own 3 cap (.ints xs))] 4 ⟨r1, xs, cap, i1, h1, by omega, hcap, .inl ⟨rfl, rfl, rfl⟩⟩ rfl ⟨trivial, ⟨rfl, rfl, trivial⟩, rfl⟩ rfl
 ·refine awp_held TM [(4, _)] sb rfl (fun ρs => ?_)
  refine zt0 ?_
  refine zt1 ?_
  refine zt2 ?_
  refine w_u [3] kr rfl ⟨?_, trivial⟩
  first | (refine zho ?_) | (refine w_F _ (d_l1Odd bs c _ _ hl) Zz Zz Zz Zz Zz Zz Zz Zz ft Zz Zz ?_; rintro v Hout n1 ⟨r2, i2, h2, hr2', rfl, rfl, rfl⟩; refine ⟨sb, ?_⟩)
  refine zt4 ?_
  refine w_u [5] kr rfl ⟨?_, trivial⟩
  first | (refine zho ?_) | (refine w_F _ (d_l1Odd bs c _ _ hl) Zz Zz Zz Zz Zz Zz Zz Zz ft Zz Zz ?_; rintro v Hout n1 ⟨r2, i2, h2, hr2', rfl, rfl, rfl⟩; refine ⟨sb, ?_⟩)
  refine w_v kr ?_
  rotate_left
  all_goals ((repeat' (first | refine stp ?_ | (refine stq ?_ ?_ <;> (intro hc; ((try simp at hc) <;> try contradiction))) | fail)) <;> try (exfalso; omega))
  all_goals exact fin rfl w_3 [] (.agg [.int r, .int k, .sl 3 1 0 xs.length cap]) [(2, .own 90 1 (.lit (curL c bs.length i2 h2))), (3, .own 3 cap (.ints (xs.set (0 + Int.toNat 0) r2)))] 4 ⟨r, xs.set (0 + Int.toNat 0) r2, cap, i2, h2, by rw [List.length_set]; omega, by rw [List.length_set]; omega, .inl ⟨by rw [List.length_set], rfl, rfl⟩⟩ rfl ⟨trivial, ⟨rfl, rfl, trivial⟩, rfl⟩ rfl
 ·exact fin rfl w_3 [] (.agg [.int r, .int k, .sl 3 1 0 xs.length cap]) [(2, .own 90 1 (.lit (curL c bs.length i0 h0))), (3, .own 3 cap (.ints xs))] 4 ⟨r, xs, cap, i0, h0, by omega, hcap, .inl ⟨rfl, rfl, rfl⟩⟩ rfl ⟨trivial, ⟨rfl, rfl, trivial⟩, rfl⟩ rfl
 ·obtain ⟨cap0, hcap0⟩ : ∃ z, z = cap := ⟨_, rfl⟩
  ((repeat' (first | refine stp ?_ | (refine w_x TT Zz Zz Zz Zz Zz sd ?_; intro cap hcap) | (refine stq ?_ ?_ <;> (intro hc; ((try simp at hc) <;> try contradiction))) | fail)) <;> try (exfalso; omega))
  all_goals rename_i cap1 _
  all_goals exact fin rfl w_3 [(4, 7)] (.agg [.int r, .int k, .sl 4 1 0 (xs.length + 1) cap]) [(2, .own 90 1 (.lit (curL c bs.length i0 h0))), (4, .own 3 cap (.ints (xs ++ [1])))] 5 ⟨r, xs ++ [1], cap, i0, h0, by simp; omega, by simp; omega, .inr ⟨by simp, rfl, rfl⟩⟩ rfl ⟨trivial, ⟨rfl, own_ints (by simp), trivial⟩, rfl⟩ rfl
 ·exact fin rfl w_3 [] (.agg [.int r, .int k, .sl 3 1 0 xs.length cap]) [(2, .own 90 1 (.lit (curL c bs.length i0 h0))), (3, .own 3 cap (.ints xs))] 4 ⟨r, xs, cap, i0, h0, by omega, hcap, .inl ⟨rfl, rfl, rfl⟩⟩ rfl ⟨trivial, ⟨rfl, rfl, trivial⟩, rfl⟩ rfl
def DrewAdd (t : TypeId) (v : AV) (Hout : List (Nat × Blk)) (n1 : Nat) : Prop :=
  ∃ (k : Nat) (r : Int) (zs bs cs : List Int) (cap cb cc : Nat), k ≤ 3 ∧ zs.length ≤ 1000 ∧ bs.length = k ∧ cs.length = k ∧ zs.length ≤ cap ∧ bs.length ≤ cb ∧ cs.length ≤ cc ∧ (∀ p, -9223372036854775808 ≤ bs.getD p 0 ∧ bs.getD p 0 ≤ 9223372036854775807) ∧ (∀ p, -9223372036854775808 ≤ cs.getD p 0 ∧ cs.getD p 0 ≤ 9223372036854775807) ∧ v = .tup [.agg [.int r, .int k, .sl 2 1 0 zs.length cap], .one (.sl 3 1 0 bs.length cb), .one (.sl 4 1 0 cs.length cc)] ∧ Hout = [(2, .own t cap (.ints zs)), (3, .own t cb (.ints bs)), (4, .own t cc (.ints cs))] ∧ n1 = 5
end Go.Proofs.YtfkbjkmlpinoeaaGreat
namespace Go.Proofs.YtfkbjkmlpinoeaaGreat
open Go.RowKit
theorem row_inB {p r c : Nat} (h : p < r) : p * c + c ≤ r * c := by
  have := Nat.mul_le_mul_right c (show p + 1 ≤ r by omega)
  rw [Nat.add_mul, Nat.one_mul] at this; exact this
def DrewK (t tc : TypeId) (nb c : Nat) (v : AV) (Hout : List (Nat × Blk)) (n1 : Nat) : Prop := ∃ k : Nat, (1 ≤ k ∧ k ≤ 3) ∧ DrewM t tc nb c k v Hout n1
set_option maxHeartbeats 4000000 in
theorem d_l27Cone (bs : List Int) (c i : Nat) (h : Int) (hl : bs.length ≤ 1048576) : Does Tryz.prog 42 [vC] [(1, .ro (.bytes bs)), (2, .own 90 1 (.lit (curL c bs.length i h)))] 3 (DrewK 3 90 bs.length c) := by
 refine Does.intro TT Tryz.func42 rfl (by kernel_rfl) Zz Zz fun E hE => ?_
 ((repeat' (first | refine stp ?_ | ((refine w_E (d_l1Below bs c _ _ 3 hl) Zz Zz Zz Zz Zz Zz Zz ft rfl ?_); rintro v Hout n1 ⟨r0, i0, h0, ⟨hr1, hr2⟩, rfl, rfl, rfl⟩; replace hr2 := hr2 (by omega); obtain ⟨m0, rfl⟩ := Int.eq_ofNat_of_zero_le hr1) | ((refine w_E (d_l1Below bs c _ _ 4 hl) Zz Zz Zz Zz Zz Zz Zz ft rfl ?_); rintro v Hout n1 ⟨r1, i1, h1, ⟨hs1, hs2⟩, rfl, rfl, rfl⟩; replace hs2 := hs2 (by omega); obtain ⟨m1, rfl⟩ := Int.eq_ofNat_of_zero_le hs1; have hdr := fun i h => d_l3Draw bs c i (1 + m1) (1 + m0) h 2 (by omega) (by omega) (by omega) hl; rw [show ((1 + m1 : Nat) : Int) = 1 + (m1 : Int) by omega, show ((1 + m0 : Nat) : Int) = 1 + (m0 : Int) by omega] at hdr) | ((refine w_E (hdr _ _) Zz Zz Zz Zz Zz Zz Zz ft rfl ?_); rintro v Hout n1 ⟨zs, i2, h2, hz, hzb, rfl, rfl, rfl⟩) | (refine stq ?_ ?_ <;> (intro hc; ((try simp at hc) <;> try contradiction))) | fail)) <;> try (exfalso; omega))
 obtain ⟨a, ha⟩ : ∃ a, a = 1 + m1 := ⟨_, rfl⟩
 obtain ⟨n, hn⟩ : ∃ n, n = 1 + m0 := ⟨_, rfl⟩
 have hnI : 1 + (m0 : Int) = n := by omega
 rw [← ha, ← hn] at hz ⊢
 rw [hnI]
 refine w_G hE (fun x : Nat × List Int × Nat × Int => x.1 ≤ a ∧ x.2.1.length = a * n ∧ ∀ p, -(2 + (x.1 : Int)) ≤ x.2.1.getD p 0 ∧ x.2.1.getD p 0 ≤ 2 + (x.1 : Int)) (fun x => a - x.1)
  (fun x => [(0, vC), (2, .one (.ptr 3 3 0 0)), (3, vI n), (4, .one (.ptr 5 3 0 0)), (5, vI x.1)]) (fun x => [(1, .ro (.bytes bs)), (2, .own 90 1 (.lit (curL c bs.length x.2.2.1 x.2.2.2))), (3, .own 26 1 (.lit zeroM)), (4, .own 3 (a * n) (.ints x.2.1)), (5, .own 26 1 (.lit [.int a, .int n, .sl 4 1 0 (a * n) (a * n)]))]) 6 [] (0, zs, i2, h2) ⟨Nat.zero_le _, hz, fun p => by have := hzb p; dsimp only; omega⟩ ⟨w_1, w_2, rfl⟩ ?_
 rintro ⟨k, ws, i3, h3⟩ ⟨hk, hw, hwb⟩
 dsimp only at hk hw hwb ⊢
 have han : a * n ≤ 4 * 3 := Nat.mul_le_mul (by omega) (by omega)
 have hsp := fun i h => d_l3Spoil bs c i (a * n) (a * n) h a n ws hw.symm (by omega) (by omega) (by omega) hl
 have ek : (k : Int) * n = ((k * n : Nat) : Int) := by simp
 by_cases hka : k < a
 ·have hkn := row_inB (c := n) hka
  have hv := hwb (0 + ((k : Int) * n).toNat)
  ((repeat' (first | refine stp ?_ | ((refine w_E (d_l1Once bs c _ _ 2 hl) Zz Zz Zz Zz Zz Zz Zz ft rfl ?_); rintro v Hout n1 ⟨b0, i4, h4, rfl, rfl, rfl⟩; cases b0) | ((refine w_E (hsp _ _) Zz Zz Zz Zz Zz Zz Zz ft rfl ?_); rintro v Hout n1 ⟨r5, zs5, cap5, i5, h5, hz5, hc5, hd5⟩; rcases hd5 with ⟨rfl, rfl, rfl⟩ | ⟨rfl, rfl, rfl⟩) | (refine stq ?_ ?_ <;> (intro hc; ((try simp at hc) <;> try contradiction))) | fail)) <;> try (exfalso; omega))
  ·exact fin rfl w_3 [(3, 4)] (.agg [.int r5, .int n, .sl 3 1 0 zs5.length cap5]) [(2, .own 90 1 (.lit (curL c bs.length i5 h5))), (3, .own 3 cap5 (.ints zs5))] 4 ⟨n, by omega, r5, zs5, cap5, i5, h5, hz5, hc5, rfl, rfl, rfl⟩ rfl ⟨trivial, ⟨rfl, rfl, trivial⟩, rfl⟩ rfl
  ·exact fin rfl w_3 [(3, 6)] (.agg [.int r5, .int n, .sl 3 1 0 zs5.length cap5]) [(2, .own 90 1 (.lit (curL c bs.length i5 h5))), (3, .own 3 cap5 (.ints zs5))] 4 ⟨n, by omega, r5, zs5, cap5, i5, h5, hz5, hc5, rfl, rfl, rfl⟩ rfl ⟨trivial, ⟨rfl, rfl, trivial⟩, rfl⟩ rfl
  ·refine awp_held TM [(5, _)] sb rfl (fun ρs => ?_)
   refine zt0 ?_
   refine zt1 ?_
   refine zt2 ?_
   refine zt3 ?_
   refine zt4 ?_
   refine zt5 ?_
   refine zt6 ?_
   refine zt7 ?_
   refine zt8 ?_
   refine zt9 ?_
   refine zt10 ?_
   refine w_u [11] kr rfl ⟨?_, trivial⟩
   first | (refine zho ?_) | refine w_B _ (d_l1Abs _ (by omega) (by omega)) Zz Zz Zz Zz Zz Zz Zz Zz Zz ft Zz Zz sb rfl ?_
   refine w_u [12] kr rfl ⟨?_, trivial⟩
   first | (refine zho ?_) | refine w_B _ (d_l1Abs _ (by omega) (by omega)) Zz Zz Zz Zz Zz Zz Zz Zz Zz ft Zz Zz sb rfl ?_
   refine zt13 ?_
   refine zt14 ?_
   refine w_u [15] kr rfl ⟨?_, trivial⟩
   first | (refine zho ?_) | refine w_B _ (d_l1Abs _ (by omega) (by omega)) Zz Zz Zz Zz Zz Zz Zz Zz Zz ft Zz Zz sb rfl ?_
   refine w_v kr ?_
   rotate_left
   all_goals ((repeat' (first | refine stp ?_ | (refine stq ?_ ?_ <;> (intro hc; ((try simp at hc) <;> try contradiction))) | fail)) <;> try (exfalso; omega))
   all_goals exact ⟨[], (k + 1, _, i4, h4), ⟨hka, by dsimp only; rw [List.length_set]; exact hw, fun p => by
    dsimp only
    have hp := hwb p
    rw [List.getD_eq_getElem?_getD, List.getElem?_set]
    split
    ·split
     ·simp only [Option.getD_some]; omega
     ·simp only [Option.getD_none]; omega
    ·rw [← List.getD_eq_getElem?_getD]; omega⟩, w_4, ⟨w_1, ⟨rfl, rfl, rfl, own_ints rfl, rfl, trivial⟩, rfl⟩⟩
 ·obtain rfl : k = a := by omega
  ((repeat' (first | refine stp ?_ | ((refine w_E (hsp _ _) Zz Zz Zz Zz Zz Zz Zz ft rfl ?_); rintro v Hout n1 ⟨r5, zs5, cap5, i5, h5, hz5, hc5, hd5⟩; rcases hd5 with ⟨rfl, rfl, rfl⟩ | ⟨rfl, rfl, rfl⟩) | (refine stq ?_ ?_ <;> (intro hc; ((try simp at hc) <;> try contradiction))) | fail)) <;> try (exfalso; omega))
  ·exact fin rfl w_3 [(3, 4)] (.agg [.int r5, .int n, .sl 3 1 0 zs5.length cap5]) [(2, .own 90 1 (.lit (curL c bs.length i5 h5))), (3, .own 3 cap5 (.ints zs5))] 4 ⟨n, by omega, r5, zs5, cap5, i5, h5, hz5, hc5, rfl, rfl, rfl⟩ rfl ⟨trivial, ⟨rfl, rfl, trivial⟩, rfl⟩ rfl
  ·exact fin rfl w_3 [(3, 6)] (.agg [.int r5, .int n, .sl 3 1 0 zs5.length cap5]) [(2, .own 90 1 (.lit (curL c bs.length i5 h5))), (3, .own 3 cap5 (.ints zs5))] 4 ⟨n, by omega, r5, zs5, cap5, i5, h5, hz5, hc5, rfl, rfl, rfl⟩ rfl ⟨trivial, ⟨rfl, rfl, trivial⟩, rfl⟩ rfl
def DrewBd (t tc : TypeId) (nb c : Nat) (v : AV) (Hout : List (Nat × Blk)) (n1 : Nat) : Prop :=
  ∃ (k : Nat) (r : Int) (zs bs : List Int) (cap cb i : Nat) (h : Int), (1 ≤ k ∧ k ≤ 3) ∧ zs.length ≤ 1000 ∧ zs.length ≤ cap ∧ bs.length ≤ 40 ∧ bs.length ≤ cb ∧ v = .tup [.agg [.int r, .int k, .sl 3 1 0 zs.length cap], .one (.sl 4 1 0 bs.length cb)] ∧ Hout = [(2, .own tc 1 (.lit (curL c nb i h))), (3, .own t cap (.ints zs)), (4, .own t cb (.ints bs))] ∧ n1 = 5
def DrewBest (t : TypeId) (v : AV) (Hout : List (Nat × Blk)) (n1 : Nat) : Prop :=
  ∃ (k : Nat) (r s : Int) (zs bs cs : List Int) (cap cb cc : Nat), (1 ≤ k ∧ k ≤ 3) ∧ zs.length ≤ 1000 ∧ bs.length ≤ 40 ∧ cs.length = k ∧ zs.length ≤ cap ∧ bs.length ≤ cb ∧ cs.length ≤ cc ∧ (0 ≤ s ∧ s < 4) ∧ v = .tup [.agg [.int r, .int k, .sl 2 1 0 zs.length cap], .one (.sl 3 1 0 bs.length cb), .one (.sl 4 1 0 cs.length cc), .one (.int s)] ∧ Hout = [(2, .own t cap (.ints zs)), (3, .own t cb (.ints bs)), (4, .own t cc (.ints cs))] ∧ n1 = 5
end Go.Proofs.YtfkbjkmlpinoeaaGreat
