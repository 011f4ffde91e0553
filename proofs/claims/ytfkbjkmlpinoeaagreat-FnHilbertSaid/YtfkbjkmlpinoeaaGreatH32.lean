/-
  TEXTS OF THE PROOF, put together: bSortV, bHilbB, bOrdV, pHil.
-/
import Derived.Test.YtfkbjkmlpinoeaaGreatH31
import Derived.Test.YtfkbjkmlpinoeaaGreatH25
import Derived.Shelf.SlSortCmp.WholeK
import Derived.Test.YtfkbjkmlpinoeaaGreatH30
import Derived.Test.YtfkbjkmlpinoeaaGreatH18
import Derived.Maps.AppendAt
import Derived.Test.YtfkbjkmlpinoeaaGreatH20
set_option linter.unusedVariables false
set_option linter.unusedSimpArgs false
namespace Go.Proofs.YtfkbjkmlpinoeaaGreat
open Go.RowKit Go.Sort Go.Lib Go.Shelf
def encV (x : Row × Int) : List Value := [encR x.1, .int .i64 x.2]
theorem vflat_len {α : Type} {f : α → List Value} {m : Nat} (hf : ∀ x, (f x).length = m) : ∀ (l : List α), (l.flatMap f).length = l.length * m
  | [] => by simp
  | x :: l => by rw [List.flatMap_cons, List.length_append, hf, vflat_len hf l, List.length_cons, Nat.succ_mul]; omega
theorem vflat_get {α : Type} {f : α → List Value} {m : Nat} (hf : ∀ x, (f x).length = m) :
    ∀ (l : List α) (i j : Nat) (h : i < l.length), j < m → (l.flatMap f)[i * m + j]? = (f l[i])[j]?
  | [], _, _, h, _ => by simp at h
  | x :: l, 0, j, _, hj => by
    rw [List.flatMap_cons, List.getElem?_append_left (by rw [hf]; omega)]; simp
  | x :: l, i + 1, j, h, hj => by
    rw [List.flatMap_cons, List.getElem?_append_right (by rw [hf, Nat.succ_mul]; omega), hf, show (i + 1) * m + j - m = i * m + j by rw [Nat.succ_mul]; omega]
    exact vflat_get hf l i j (by simpa using h) hj
theorem flatK_list {α : Type} [Inhabited α] {f : α → List Value} (hf : ∀ x, (f x).length = 2) (d : Array α) : (flatK f 2 d).toList = d.toList.flatMap f := by
  apply List.ext_getElem?
  intro t
  by_cases ht : t < d.size * 2
  · have h1 : t / 2 < d.toList.length := by rw [Array.length_toList]; omega
    have e := vflat_get hf d.toList (t / 2) (t % 2) h1 (by omega)
    rw [show t / 2 * 2 + t % 2 = t by omega] at e
    have g := get_flatK f 2 d t ht
    have hs : t < (flatK f 2 d).size := by rw [size_flatK]; exact ht
    rw [getElem!_pos (flatK f 2 d) t hs, getElem!_pos d (t / 2) (by omega)] at g
    have h2 : t % 2 < (f d[t / 2]).length := by rw [hf]; omega
    rw [e, Array.getElem?_toList, Array.getElem?_eq_getElem hs, g]
    rw [getElem!_pos (f d[t / 2]) (t % 2) h2, ← List.getElem?_eq_getElem h2]
    simp
  · rw [List.getElem?_eq_none (by rw [Array.length_toList, size_flatK]; omega), List.getElem?_eq_none (by rw [vflat_len hf, Array.length_toList]; omega)]
theorem flat_vals (l : List (Row × Int)) (ρ : Rho) : cells ρ (Elts.vals true l).all = l.flatMap encV := by
  simp only [Elts.all, cells, List.map_flatMap]
  rfl
theorem keys_vals (l : List (Row × Int)) : (Elts.vals true l).keys = [] := vals_keys
theorem vals_over {E : Env} {ρ : Rho} {t t' : TypeId} {cap : Nat} {l l' : List (Row × Int)} {lt : List Row} {w w' : World} {g : Nat} (h : HInv E ρ (lk [(1, .own t cap (.vals true l)), (2, .tok t' false lt)]) 3 w)
    (hp : ρ 1 = some (g, 0)) (hg : w.grownBy w' (some g)) (hb : w'.ownsRow 0 t 2 (.slice (some ⟨g, 0, none⟩) l'.length cap) l'.length (l'.flatMap encV)) (hs : ∀ r ∈ l', r ∈ l) :
    HInv E ρ (lk [(1, .own t cap (.vals true l')), (2, .tok t' false lt)]) 3 w' := by
  have h1 := h.over (k := 1) (e' := .vals true l') rfl hp hg (by
    simp only [BlkOK, flat_vals]
    simpa [adr, hp, Elts.sz, Elts.len] using hb) (by rw [keys_vals]; simp) (fun x hx => by
      obtain ⟨r, hr, rfl⟩ := List.mem_map.1 hx
      exact h.rows 1 _ rfl _ (List.mem_map.2 ⟨r, hs r hr, rfl⟩)) fun k1 b1 p g' hk ho hp' hf => by
        obtain ⟨x, hx, hl, hq⟩ := hf
        obtain ⟨r, hr, rfl⟩ := List.mem_map.1 hx
        exact h.far k1 1 b1 _ p g' hk rfl ho hp' ⟨_, List.mem_map.2 ⟨r, hs r hr, rfl⟩, hl, hq⟩
  refine cast ?_ h1
  congr 1
  funext k
  by_cases e : k = 1
  · subst e; rfl
  · rw [upd_ne e]
    simp only [lk, nbeq_ne e, cond_false]
theorem vals_sealed {E : Env} {ρ' : Rho} {t t' : TypeId} {cap : Nat} {l' : List (Row × Int)} {lt : List Row} {w : World} (h : HInv E ρ' (lk [(1, .own t cap (.vals true l')), (2, .tok t' false lt)]) 3 w) (hs : ∀ r ∈ l', r.1 ∈ lt) :
    Sealed E (lk [(1, .own t cap (.vals true l')), (2, .tok t' false lt)]) :=
  BackedL.sealed h ⟨.inr ⟨2, t', lt, rfl, hs⟩, trivial, trivial⟩
theorem vals_told {E : Env} {ρ : Rho} {t t' : TypeId} {cap : Nat} {l : List (Row × Int)} {lt : List Row} {w : World} (h : HInv E ρ (lk [(1, .own t cap (.vals false l)), (2, .tok t' false lt)]) 3 w) (hs : ∀ r ∈ l, r.1 ∈ lt) : HInv E ρ (lk [(1, .own t cap (.vals true l)), (2, .tok t' false lt)]) 3 w := by
  have h1 := h.tell (k := 1) (kt := 2) (e' := .vals true l) Zz Zz Zz fun x hx => by
    obtain ⟨r, hr, rfl⟩ := List.mem_map.1 hx
    exact ⟨rfl, hs r hr⟩
  refine cast ?_ h1
  congr 1
  funext k
  by_cases e : k = 1
  · subst e; rfl
  · rw [upd_ne e]
    simp only [lk, nbeq_ne e, cond_false]
def Vx (x : Row × Int) : List Int × Int := (x.1.xs, x.2)
def VB (x : Row × Int) : Prop := x.1.xs.length ≤ 1000000 ∧ -4000000000000000000 ≤ x.2 ∧ x.2 ≤ 4000000000000000000
def ReadsV (P : Program) (g : Nat) (f : List Int × Int → List Int × Int → Int) : Prop := ∀ (W : World) (x y : Row × Int), RowAt W false x.1 → RowAt W false y.1 → VB x → VB y →
  Calls P g #[.agg (encV x).toArray, .agg (encV y).toArray] W fun e w' => e = .returned (.int .i64 (f (Vx x) (Vx y))) ∧ ∃ q os', w' = Sort.grow (W.drewN q) os'
theorem vals_at {ρ : Rho} {t : TypeId} {cap : Nat} {l : List (Row × Int)} {w : World} (h : BlkOK ρ 1 w (.own t cap (.vals true l))) (hl : l ≠ []) :
    ∃ g cur, ρ 1 = some (g, 0) ∧ w.heap[g]? = some (.cells cur t (0, 0)) ∧ l.length ≤ cap ∧ cap ≤ maxLen ∧ cur.size = cap * 2 ∧ cur.toList.take (l.length * 2) = l.flatMap encV := by
  simp only [BlkOK, flat_vals] at h
  rcases h.2 with ⟨_, h0⟩ | ⟨g, cap', cur, hv, _, hb, h1, h2, h3, h4⟩
  · exact absurd (List.eq_nil_of_length_eq_zero h0) hl
  · cases hp : ρ 1 with
    | none => simp [adr, hp] at hv
    | some p =>
      simp [adr, hp] at hv
      obtain ⟨⟨rfl, e2⟩, _, rfl⟩ := hv
      refine ⟨p.1, cur, ?_, hb, h1, h2, h3, ?_⟩
      · rw [show p = (p.1, p.2) from rfl, e2]
      · simpa [Elts.sz, Elts.len] using h4
def SortedV (t : TypeId) (cap : Nat) (t' : TypeId) (l : List (Row × Int)) (lt : List Row) (cf : List Int × Int → List Int × Int → Int) (v : AV) (Hout : List (Nat × Blk)) (n : Nat) : Prop :=
  ∃ l' : List (Row × Int), l'.Perm l ∧ (l'.Pairwise fun x y => ¬ cf (Vx y) (Vx x) < 0) ∧ v = .tup [] ∧ Hout = [(1, .own t cap (.vals true l')), (2, .tok t' false lt)] ∧ n = 3
theorem d_sortVals (g : Nat) (cf : List Int × Int → List Int × Int → Int) (hO : SWO (ltOf cf)) (eg : ∀ args w, (callFunc g args).run Tryz.prog w = .ok (.enter g args) w) (hcmp : ReadsV Tryz.prog g cf)
    (l : List (Row × Int)) (lt : List Row) (t t' : TypeId) (cap : Nat) (hl : l.length ≤ 1000000) (hr : ∀ r ∈ l, VB r) (hlt : ∀ r ∈ l, r.1 ∈ lt) :
    Does Tryz.prog 118 [.one (.sl 1 2 0 l.length cap), .one (.fn g [])] [(1, .own t cap (.vals false l)), (2, .tok t' false lt)] 3 (SortedV t cap t' l lt cf) := by
  refine ⟨?_, fun ρ w hH0 hk => ?_⟩
  · exact ⟨_, Tryz.func118, by kernel_rfl, by kernel_rfl⟩
  have hH := vals_told hH0 hlt
  clear hH0
  by_cases h0 : l = []
  · subst h0
    refine Calls.mono (AnyF.slices_SortFunc_none { Tryz.l6k with } (adr ρ 1 (0 * 2)) cap _ w) fun e w' ⟨he, hw⟩ => ?_
    subst hw
    exact ⟨ρ, .tup [], _, 3, ⟨[], List.Perm.refl _, List.Pairwise.nil, rfl, rfl, rfl⟩, he, hH, (by intro k hk; cases hk), vals_sealed hH (by simp)⟩
  · obtain ⟨b, cur, hp, hb, h1, h2, h3, h4⟩ := vals_at (hH.blk 1 _ rfl) h0
    let α := {r : Row × Int // r ∈ l}
    obtain ⟨r0, hr0⟩ := List.exists_mem_of_ne_nil l h0
    haveI : Inhabited α := ⟨⟨r0, hr0⟩⟩
    let enc : α → List Value := fun r => encV r.1
    have hk2 : ∀ x : α, (enc x).length = 2 := fun _ => rfl
    let d : Array α := l.attach.toArray
    have hds : d.size = l.length := by show l.attach.toArray.size = _; rw [List.size_toArray]; exact List.length_attach
    have hdl : (flatK enc 2 d).toList = l.flatMap encV := by
      rw [flatK_list hk2]
      show l.attach.toArray.toList.flatMap (fun r : α => encV r.1) = _
      rw [show (fun r : α => encV r.1) = fun r => encV (Subtype.val r) from rfl, ← List.flatMap_map Subtype.val encV, List.attach_map_subtype_val]
    have hrow : ∀ x ∈ l, RowAt w false x.1 := fun x hx => hH.rows 1 _ rfl _ (List.mem_map.2 ⟨x, hx, rfl⟩)
    have hfar : ∀ x ∈ l, ∀ p, x.1.a = some p → 0 < x.1.len false → p.1 ≠ b := fun x hx p hp' hl' e => hH.far 1 1 _ _ (b, 0) p.1 Zz Zz Zz hp ⟨_, List.mem_map.2 ⟨x, hx, rfl⟩, hl', p, hp', rfl⟩ e.symm
    have hs := AnyQ.slices_SortFunc (P := Tryz.prog) (ρ := Tryz.l6k_ren) (α := α) Tryz.l6k 2 Tryz.isAgg73 Tryz.sizeOf73 enc hk2 (fun x v hv => by simp only [enc, encV, List.mem_cons, List.not_mem_nil, or_false] at hv; rcases hv with rfl | rfl <;> rfl) (fun x y => cf (Vx x.1) (Vx y.1)) ⟨fun x => hO.irrefl (Vx x.1), fun x y z => hO.trans (Vx x.1) (Vx y.1) (Vx z.1), fun x y z => hO.ntrans (Vx x.1) (Vx y.1) (Vx z.1)⟩ g #[] b 0 cap d w eg
      (fun m os dk hdk x y => by
        exact hcmp _ x.1 y.1 ((hrow _ x.2).grown (grown_put (enc := id) (flatK enc 2 dk)) fun p hp' hl' e => hfar _ x.2 p hp' hl' (by injection e)) ((hrow _ y.2).grown (grown_put (enc := id) (flatK enc 2 dk)) fun p hp' hl' e => hfar _ y.2 p hp' hl' (by injection e)) (hr _ x.2) (hr _ y.2))
      (holds_blk (enc := id) (flatK enc 2 d) hb (by rw [size_flatK, hds, h4, hdl, List.map_id])) (Array.getElem?_eq_some_iff.1 hb).1 (by omega)
    have hargs : ([AV.one (.sl 1 2 0 l.length cap), AV.one (.fn g [])].map (AV.conc ρ)).toArray = #[.slice (some ⟨b, 0, none⟩) d.size cap, .func (.func g) #[] #[]] := by
      rw [hds]; simp [AV.conc, SV.conc, adr, hp]
    rw [hargs]
    refine Calls.mono hs fun e w' ⟨he, d', n, os, hperm, hsort, hw⟩ => ?_
    obtain ⟨p1, p2, p3⟩ := hperm
    have e1 : d'.extract 0 d.size = d' := by rw [← p1, Array.extract_size]
    have e2 : d.extract 0 d.size = d := Array.extract_size
    rw [e1, e2] at p3
    have hl' : (d'.toList.map Subtype.val).length = l.length := by simp [p1, hds]
    have hperm' : (d'.toList.map Subtype.val).Perm l := by
      have := p3.map Subtype.val
      rw [show d.toList = l.attach from rfl, List.attach_map_subtype_val] at this
      exact this
    have hfl : (flatK enc 2 d').toList = (d'.toList.map Subtype.val).flatMap encV := by
      rw [flatK_list hk2, List.flatMap_map]
    have hsz' : (flatK enc 2 d').size = l.length * 2 := by rw [size_flatK, p1, hds]
    have hw' : w' = sortWorld id w b 0 n (flatK enc 2 d') os := hw
    have hown : w'.ownsRow 0 t 2 (.slice (some ⟨b, 0, none⟩) (d'.toList.map Subtype.val).length cap) (d'.toList.map Subtype.val).length ((d'.toList.map Subtype.val).flatMap encV) := by
      refine ⟨by rw [vflat_len (f := encV) (m := 2) (fun _ => rfl)], .inr ⟨b, cap, _, rfl, Nat.zero_le _, by rw [hw']; exact heap_put (flatK enc 2 d') hb, by omega, h2, by simp [putCells, h3], ?_⟩⟩
      rw [hl', take_put (flatK enc 2 d') (by rw [hsz', h3]; omega) (l.length * 2) (by omega), List.take_of_length_le (by rw [Array.length_toList]; omega), List.map_id, hfl]
    have hH2 := vals_over hH hp (w' := w') (by rw [hw']; exact grown_put (enc := id) (flatK enc 2 d')) hown fun r hr => hperm'.mem_iff.1 hr
    refine ⟨ρ, .tup [], _, 3, ⟨_, hperm', ?_, rfl, rfl, rfl⟩, he, hH2, (by intro k hk; cases hk), vals_sealed hH2 fun r hr => hlt r (hperm'.mem_iff.1 hr)⟩
    rw [List.pairwise_map, List.pairwise_iff_getElem]
    intro i j hi hj hij
    have := hsort i j (Nat.zero_le _) hij (by rw [← p1]; simpa using hj)
    simp only [Array.length_toList] at hi hj
    simp only [getElem!_pos d' i hi, getElem!_pos d' j hj, ltOf, decide_eq_false_iff_not] at this
    simpa using this
end Go.Proofs.YtfkbjkmlpinoeaaGreat
namespace Go.Proofs.YtfkbjkmlpinoeaaGreat
open Go.RowKit
def isZ (v : List Int) : Bool := decide (zoP v 0 v.length)
def sumB (xs : List Int) (a b : Nat) (x y : List Int) : Bool := !isZ (difL x y) && inAny xs a b (difL x y)
def GoodV (b : Nat) (x : List Int) (r : List Int) : Prop := r.length = b ∧ r.all numB = true ∧ (difL x r).all numB = true
set_option maxHeartbeats 1000000 in
theorem d_hc (a b n ca n1 c1 n2 c2 : Nat) (xs x y : List Int) (xn yn : Int) (hn : n = xs.length) (h1 : n1 = y.length) (h2 : n2 = x.length) (hx : xs.length = a * b) (ha : a ≤ 8) (hb1 : 1 ≤ b) (hb : b ≤ 3) (hxn : xs.all numB = true) (hca : xs.length ≤ ca)
    (hxl : x.length = b) (hxa : x.all numB = true) (hy : GoodV b x y) :
    Does Tryz.prog 75 [.agg [.sl 1 1 0 n1 c1, .int yn], .one (.ptr 2 2 0 0), .one (.ptr 4 3 0 0)]
      [(1, .ro (.ints y)), (2, .ro (.lit [.sl 3 1 0 n2 c2, .int xn])), (3, .ro (.ints x)), (4, .ro (.lit [.int a, .int b, .sl 5 1 0 n ca])), (5, .ro (.ints xs))] 6 (Ret (vB (sumB xs a b x y)) 6) := by
  subst hn h1 h2
  obtain ⟨g1, g2, g3⟩ := hy
  have hd := fun c1 c2 => d_diff x y x.length y.length c1 c2 Zz Zz (by omega) hxa g2 (by omega)
  have hz := fun n c (hn : n = (difL x y).length) => (by subst hn; exact d_zeroO (difL x y) 0 _ c (by omega) (by rw [difL_len]; omega) : Does Tryz.prog 71 [vS 1 1 0 n c] [(1, .ro (.ints (difL x y)))] 2 (Ret (vB (isZ (difL x y))) 2))
  have hi := fun m cv (hm : m = (difL x y).length) => d_inAny a b xs.length ca m cv xs (difL x y) rfl hm hx (by rw [difL_len]; exact hxl) ha hb1 hb hxn g3 hca
  refine Does.intro TT Tryz.func75 rfl (by kernel_rfl) Zz Zz fun E hE => ?_
  have hs : sumB xs a b x y = (!isZ (difL x y) && inAny xs a b (difL x y)) := rfl
  cases cz : isZ (difL x y) with
  | true =>
    rw [cz] at hz hs
    ((repeat' (first | refine stx ?_ | ((refine w_E (hd _ _) Zz Zz Zz Zz Zz Zz Zz ft rfl ?_); rintro v Hout n1 ⟨cp, hcp, rfl, rfl, rfl⟩) | (first | refine w_z (hz _ _ (by rw [difL_len])) Zz Zz Zz Zz Zz Zz Zz Zz ft Zz Zz ?_ | refine w_A (hz _ _ (by rw [difL_len])) Zz Zz Zz Zz Zz Zz Zz Zz ft Zz Zz ?_) | (first | refine w_z (hi _ _ (by rw [difL_len])) Zz Zz Zz Zz Zz Zz Zz Zz ft Zz Zz ?_ | refine w_A (hi _ _ (by rw [difL_len])) Zz Zz Zz Zz Zz Zz Zz Zz ft Zz Zz ?_) | (refine stq ?_ ?_ <;> (intro hc; ((try simp at hc) <;> try contradiction))) | fail)) <;> try (exfalso; omega))
    refine fin_ret rfl w_3 (congrArg vB (by rw [hs]; rfl)) rfl
  | false =>
    rw [cz] at hz hs
    ((repeat' (first | refine stx ?_ | ((refine w_E (hd _ _) Zz Zz Zz Zz Zz Zz Zz ft rfl ?_); rintro v Hout n1 ⟨cp, hcp, rfl, rfl, rfl⟩) | (first | refine w_z (hz _ _ (by rw [difL_len])) Zz Zz Zz Zz Zz Zz Zz Zz ft Zz Zz ?_ | refine w_A (hz _ _ (by rw [difL_len])) Zz Zz Zz Zz Zz Zz Zz Zz ft Zz Zz ?_) | (first | refine w_z (hi _ _ (by rw [difL_len])) Zz Zz Zz Zz Zz Zz Zz Zz ft Zz Zz ?_ | refine w_A (hi _ _ (by rw [difL_len])) Zz Zz Zz Zz Zz Zz Zz Zz ft Zz Zz ?_) | (refine stq ?_ ?_ <;> (intro hc; ((try simp at hc) <;> try contradiction))) | fail)) <;> try (exfalso; omega))
    refine fin_ret rfl w_3 (congrArg vB (by rw [hs]; rfl)) rfl
set_option maxHeartbeats 1000000 in
theorem d_indexV (a b n ca n2 c2 c : Nat) (xs x : List Int) (l : List (Row × Int)) (xn : Int) (hn : n = xs.length) (h2 : n2 = x.length) (hx : xs.length = a * b) (ha : a ≤ 8) (hb1 : 1 ≤ b) (hb : b ≤ 3) (hxn : xs.all numB = true) (hca : xs.length ≤ ca)
    (hxl : x.length = b) (hxa : x.all numB = true) (hl : l.length ≤ 1000000) (hg : ∀ r ∈ l, GoodV b x r.1.xs) :
    Does Tryz.prog 117 [.one (.sl 1 2 0 l.length c), .one (.fn 75 [(2, 2), (4, 3)])]
      [(1, .ro (.vals true l)), (2, .ro (.lit [.sl 3 1 0 n2 c2, .int xn])), (3, .ro (.ints x)), (4, .ro (.lit [.int a, .int b, .sl 5 1 0 n ca])), (5, .ro (.ints xs))] 6
      (fun v Hout n1 => ∃ j : Int, v = vI j ∧ Hout = [] ∧ n1 = 6 ∧ ((l.any (fun r => sumB xs a b x r.1.xs) = false ∧ j < 0) ∨ (l.any (fun r => sumB xs a b x r.1.xs) = true ∧ 0 ≤ j))) := by
  subst hn h2
  refine Does.intro TT Tryz.func117 rfl (by kernel_rfl) Zz Zz fun E hE => ?_
  ((repeat' (first | refine stx ?_ | (refine stq ?_ ?_ <;> (intro hc; ((try simp at hc) <;> try contradiction))) | fail)) <;> try (exfalso; omega))
  refine w_G hE (fun k : Nat => k ≤ l.length ∧ (l.take k).any (fun r => sumB xs a b x r.1.xs) = false) (fun k => l.length - k)
    (fun k => [(0, .one (.sl 1 2 0 l.length c)), (1, .one (.fn 75 [(2, 2), (4, 3)])), (7, vI l.length), (8, vI k)])
    (fun _ => [(1, .ro (.vals true l)), (2, .ro (.lit [.sl 3 1 0 x.length c2, .int xn])), (3, .ro (.ints x)), (4, .ro (.lit [.int a, .int b, .sl 5 1 0 xs.length ca])), (5, .ro (.ints xs))]) 6 [] 0 ⟨Nat.zero_le _, rfl⟩ ⟨w_1, w_2, rfl⟩ ?_
  rintro k ⟨hk1, hk2⟩
  by_cases hk : k < l.length
  · have hm : l.getD (0 + (k : Int).toNat) (rowD, 0) ∈ l := by rw [show 0 + (k : Int).toNat = k by omega, getD_in hk]; exact List.getElem_mem hk
    have hcl := fun yn c1 => d_hc a b xs.length ca (l.getD (0 + (k : Int).toNat) (rowD, 0)).1.xs.length c1 x.length c2 xs x (l.getD (0 + (k : Int).toNat) (rowD, 0)).1.xs xn yn Zz Zz Zz hx ha hb1 hb hxn hca hxl hxa (hg _ hm)
    have e1 : l.getD (0 + (k : Int).toNat) (rowD, 0) = l[k] := by rw [show 0 + (k : Int).toNat = k by omega, getD_in hk]
    cases cs : sumB xs a b x (l.getD (0 + (k : Int).toNat) (rowD, 0)).1.xs with
    | true =>
      rw [cs] at hcl
      ((repeat' (first | refine stx ?_ | (refine awpL_callM [(1, 6)] (hcl _ _) Zz Zz Zz Zz Zz Zz Zz ft rfl ?_; rintro v Hout n1 ⟨rfl, rfl, rfl⟩) | (refine stq ?_ ?_ <;> (intro hc; ((try simp at hc) <;> try contradiction))) | fail)) <;> try (exfalso; omega))
      have hany : l.any (fun r => sumB xs a b x r.1.xs) = true := List.any_eq_true.2 ⟨_, hm, cs⟩
      exact fin rfl w_3 [] (vI k) [] 6 (⟨_, rfl, rfl, rfl, .inr ⟨hany, by omega⟩⟩) rfl ⟨trivial, trivial, rfl⟩ rfl
    | false =>
      rw [cs] at hcl
      ((repeat' (first | refine stx ?_ | (refine awpL_callM [(1, 6)] (hcl _ _) Zz Zz Zz Zz Zz Zz Zz ft rfl ?_; rintro v Hout n1 ⟨rfl, rfl, rfl⟩) | (refine stq ?_ ?_ <;> (intro hc; ((try simp at hc) <;> try contradiction))) | fail)) <;> try (exfalso; omega))
      refine ⟨[], k + 1, ⟨by omega, ?_⟩, w_4, ⟨w_1, w_2, rfl⟩⟩
      rw [List.take_succ_eq_append_getElem hk, List.any_append, hk2, ← e1, List.any_cons, List.any_nil, cs]; rfl
  · obtain rfl : k = l.length := by omega
    rw [List.take_of_length_le (Nat.le_refl _)] at hk2
    ((repeat' (first | refine stx ?_ | (refine stq ?_ ?_ <;> (intro hc; ((try simp at hc) <;> try contradiction))) | fail)) <;> try (exfalso; omega))
    exact fin rfl w_3 [] (vI (-1)) [] 6 (⟨_, rfl, rfl, rfl, .inl ⟨hk2, by omega⟩⟩) rfl ⟨trivial, trivial, rfl⟩ rfl
theorem d_containsV (a b n ca n2 c2 m c : Nat) (xs x : List Int) (l : List (Row × Int)) (xn : Int) (hn : n = xs.length) (h2 : n2 = x.length) (hm : m = l.length) (hx : xs.length = a * b) (ha : a ≤ 8) (hb1 : 1 ≤ b) (hb : b ≤ 3) (hxn : xs.all numB = true) (hca : xs.length ≤ ca)
    (hxl : x.length = b) (hxa : x.all numB = true) (hl : l.length ≤ 1000000) (hg : ∀ r ∈ l, GoodV b x r.1.xs) :
    Does Tryz.prog 74 [.one (.sl 1 2 0 m c), .one (.fn 75 [(2, 2), (4, 3)])]
      [(1, .ro (.vals true l)), (2, .ro (.lit [.sl 3 1 0 n2 c2, .int xn])), (3, .ro (.ints x)), (4, .ro (.lit [.int a, .int b, .sl 5 1 0 n ca])), (5, .ro (.ints xs))] 6
      (Ret (vB (l.any (fun r => sumB xs a b x r.1.xs))) 6) := by
  subst hn h2 hm
  have hi := d_indexV a b xs.length ca x.length c2 c xs x l xn Zz Zz hx ha hb1 hb hxn hca hxl hxa hl hg
  refine Does.intro TT Tryz.func74 rfl (by kernel_rfl) Zz Zz fun E hE => ?_
  ((repeat' (first | refine stx ?_ | (refine awpL_callM [] hi Zz Zz Zz Zz Zz Zz Zz ft rfl ?_; rintro v Hout n1 ⟨j, rfl, rfl, rfl, hj⟩) | (refine stq ?_ ?_ <;> (intro hc; ((try simp at hc) <;> try contradiction))) | fail)) <;> try (exfalso; omega))
  refine fin_ret rfl w_3 (congrArg vB ?_) rfl
  rcases hj with ⟨h1, h2⟩ | ⟨h1, h2⟩
  · rw [h1, decide_eq_false (by omega)]
  · rw [h1, decide_eq_true h2]
end Go.Proofs.YtfkbjkmlpinoeaaGreat
namespace Go.Proofs.YtfkbjkmlpinoeaaGreat
open Go.RowKit Go.Sort Go.Lib Go.Shelf
theorem swo_cmpV : SWO (ltOf cmpV) where
  irrefl x := by simp [ltOf, cmpV_self]
  trans x y z h1 h2 := by
    simp only [ltOf, decide_eq_true_eq] at *
    exact cmpV_trans h1 h2
  ntrans x y z h1 h2 := by
    simp only [ltOf, decide_eq_false_iff_not] at *
    intro h
    by_cases e : cmpV x y = 0
    · rw [cmpV_eq e] at h; exact h2 h
    · have h3 : cmpV y x < 0 := (cmpV_neg x y).2 (by omega)
      exact h2 (cmpV_trans h3 h)
set_option maxHeartbeats 1000000 in
theorem ordV_reads : ReadsV Tryz.prog 119 cmpV := by
  intro w x y hx hy ⟨lx, bx1, bx2⟩ ⟨ly, by1, by2⟩
  have hc : ∀ o1 o2, Calls Tryz.prog 52 #[encR x.1, encR y.1] ((w.alloc o1).alloc o2) fun e w' => e = .returned (.int .i64 (cmpL x.1.xs y.1.xs)) ∧ ((w.alloc o1).alloc o2) = w' := fun o1 o2 =>
    cmpR_any x.1 y.1 _ ((hx.grown (World.grownBy_alloc w o1 none) (by simp)).grown (World.grownBy_alloc _ o2 none) (by simp)) ((hy.grown (World.grownBy_alloc w o1 none) (by simp)).grown (World.grownBy_alloc _ o2 none) (by simp)) lx ly
  obtain ⟨x1, xn⟩ := x
  obtain ⟨y1, yn⟩ := y
  simp only [Vx, encV, encR, val_len] at *
  generalize x1.a.map (fun p => (⟨p.1, p.2, none⟩ : Addr)) = A at *
  generalize y1.a.map (fun p => (⟨p.1, p.2, none⟩ : Addr)) = B at *
  have e1 : xn ≠ yn → cmpV (x1.xs, xn) (y1.xs, yn) = xn - yn := fun h => if_pos h
  have e2 : xn = yn → cmpV (x1.xs, xn) (y1.xs, yn) = cmpL x1.xs y1.xs := fun h => if_neg (by simpa using h)
  generalize cmpV (x1.xs, xn) (y1.xs, yn) = c at *
  generalize cmpL x1.xs y1.xs = c' at *
  go_enter Tryz.func119, Tryz.ntmps119
  go_wp2_with (go_at_call 52; refine (hc _ _).mono ?_; rintro e w' ⟨rfl, rfl⟩)
  · go_ret
    exact ⟨by rw [e1 (by rename_i h; simpa using h)]; rfl, 0, _, by rw [alloc_eq_grow, alloc_eq_grow, grow_grow]; rfl⟩
  · go_ret
    exact ⟨by rw [e2 (by rename_i h; simpa using h)]; rfl, 0, _, by rw [alloc_eq_grow, alloc_eq_grow, grow_grow]; rfl⟩
theorem enters_ord : ∀ args w, (callFunc 119 args).run Tryz.prog w = .ok (.enter 119 args) w := enters_of Tryz.func119 (by kernel_rfl) rfl
def OrdR (cap : Nat) (l : List (Row × Int)) (lt : List Row) (v : AV) (Hout : List (Nat × Blk)) (n : Nat) : Prop :=
  ∃ (l' : List (Row × Int)) (lr : List Row) (c : Nat), l'.Perm l ∧ (l'.Pairwise fun x y => ¬ cmpV (Vx y) (Vx x) < 0) ∧ lr = l'.map Prod.fst ∧ v = .one (.sl 3 1 0 lr.length c) ∧
    Hout = [(1, .own 73 cap (.vals true l')), (2, .tok 3 false lt), (3, .own 24 c (.rows false true lr))] ∧ n = 4
theorem row_eta {r : Row} (h : r.ps = []) : (⟨r.a, r.cap, r.xs, []⟩ : Row) = r := by cases r; cases h; rfl
set_option maxHeartbeats 4000000 in
theorem d_order (l : List (Row × Int)) (lt : List Row) (m cap : Nat) (hm : m = l.length) (hl : l.length ≤ 1000000) (hr : ∀ r ∈ l, VB r) (hlt : ∀ r ∈ l, r.1 ∈ lt) (hps : ∀ r ∈ l, r.1.ps = []) :
    Does Tryz.prog 77 [.one (.sl 1 2 0 m cap)] [(1, .own 73 cap (.vals false l)), (2, .tok 3 false lt)] 3 (OrdR cap l lt) := by
  subst hm
  have hs := d_sortVals 119 cmpV swo_cmpV enters_ord ordV_reads l lt 73 3 cap hl hr hlt
  refine Does.intro TT Tryz.func77 rfl (by kernel_rfl) Zz Zz fun E hE => ?_
  ((repeat' (first | refine stx ?_ | (refine awpL_callM [] hs Zz Zz Zz Zz Zz Zz Zz ft rfl ?_; rintro v Hout n1 ⟨l', hperm, hsort, rfl, rfl, rfl⟩) | (refine stq ?_ ?_ <;> (intro hc; ((try simp at hc) <;> try contradiction))) | fail)) <;> try (exfalso; omega))
  have hlen := hperm.length_eq
  refine w_G hE (fun x : Nat × List Row × Nat => x.1 ≤ l'.length ∧ x.2.1 = (l'.take x.1).map Prod.fst) (fun x => l'.length - x.1)
    (fun x => [(3, vS 3 1 0 x.2.1.length x.2.2), (9, .one (.sl 1 2 0 l'.length cap)), (10, vI l'.length), (11, vI x.1)])
    (fun x => [(1, .own 73 cap (.vals true l')), (2, .tok 3 false lt), (3, .own 24 x.2.2 (.rows false true x.2.1))]) 4 [] (0, [], 0) ⟨Nat.zero_le _, rfl⟩ ⟨w_1, w_2, rfl⟩ ?_
  rintro ⟨k, lr, cap2⟩ ⟨h1, h2⟩
  dsimp only at h1 h2
  have hln : lr.length = k := by rw [h2, List.length_map, List.length_take]; omega
  by_cases hk : k < l'.length
  · have e1 : l'.getD (0 + (k : Int).toNat) (rowD, 0) = l'[k] := by rw [show 0 + (k : Int).toNat = k by omega, getD_in hk]
    ((repeat' (first | refine stx ?_ | (refine w_x TT Zz Zz Zz Zz Zz sd ?_; intro cap hcap) | (refine stq ?_ ?_ <;> (intro hc; ((try simp at hc) <;> try contradiction))) | fail)) <;> try (exfalso; omega))
    refine ⟨[(3, 7)], (k + 1, _, _), ⟨by omega, ?_⟩, w_4, ⟨w_1, ⟨rfl, rfl, rfl, trivial⟩, rfl⟩⟩
    have hmem : l'.getD (0 + (k : Int).toNat) (rowD, 0) ∈ l := hperm.mem_iff.1 (by rw [e1]; exact List.getElem_mem hk)
    have hrow := row_eta (hps _ hmem)
    show lr ++ [(⟨(l'.getD (0 + (k : Int).toNat) (rowD, 0)).1.a, (l'.getD (0 + (k : Int).toNat) (rowD, 0)).1.cap, (l'.getD (0 + (k : Int).toNat) (rowD, 0)).1.xs, []⟩ : Row)] = _
    rw [hrow, h2, List.take_succ_eq_append_getElem hk, List.map_append, ← e1]; rfl
  · obtain rfl : k = l'.length := by omega
    rw [List.take_of_length_le (Nat.le_refl _)] at h2
    ((repeat' (first | refine stx ?_ | (refine stq ?_ ?_ <;> (intro hc; ((try simp at hc) <;> try contradiction))) | fail)) <;> try (exfalso; omega))
    exact fin rfl w_3 [] (.one (.sl 3 1 0 lr.length cap2)) [(1, .own 73 cap (.vals true l')), (2, .tok 3 false lt), (3, .own 24 cap2 (.rows false true lr))] 4 ⟨l', lr, cap2, hperm, hsort, h2, rfl, rfl, rfl⟩ rfl ⟨trivial, ⟨rfl, rfl, rfl, trivial⟩, rfl⟩ rfl (hb := ⟨.inr ⟨2, _, lt, rfl, fun r hr => hlt _ (hperm.mem_iff.1 hr)⟩, trivial, .inr ⟨2, _, lt, rfl, fun r hr => by
      rw [h2] at hr; obtain ⟨x, hx, rfl⟩ := List.mem_map.1 hr; exact hlt _ (hperm.mem_iff.1 hx)⟩, trivial⟩)
end Go.Proofs.YtfkbjkmlpinoeaaGreat
namespace Go.Proofs.YtfkbjkmlpinoeaaGreat
theorem box_le {lo hi : List Int} : ∀ {t : Nat}, t ≤ lo.length → ∀ v ∈ boxTo lo hi t, ∀ k, k < t → lo.getD k 0 ≤ v.getD k 0 ∧ v.getD k 0 < lo.getD k 0 + widW lo hi k
  | 0, _, v, _, k, hk => by omega
  | t + 1, ht, v, h, k, hk => by
    simp only [boxTo, extL, spanL, List.mem_flatMap, List.mem_map, List.mem_range] at h
    obtain ⟨u, hu, n, ⟨m, hm, rfl⟩, rfl⟩ := h
    have hul := box_row u hu
    by_cases c : k < t
    · have := box_le (by omega) u hu k c
      rw [getD_appL (by omega)]; exact this
    · obtain rfl : k = t := by omega
      have e : (u ++ [lo.getD k 0 + (m : Int)]).getD k 0 = lo.getD k 0 + (m : Int) := by
        rw [getD_appR (by omega), show k - u.length = 0 by omega]; rfl
      rw [e]
      have : 0 < widW lo hi k := by omega
      omega
theorem ok_wid {lo hi : List Int} (hw : ∀ k, k < lo.length → 1 ≤ widW lo hi k) : ∀ {t : Nat}, t ≤ lo.length → okTo lo hi t = true → ∀ k, k < t → widW lo hi k ≤ 4000
  | 0, _, _, k, hk => by omega
  | t + 1, ht, h, k, hk => by
    rw [okTo, Bool.and_eq_true, decide_eq_true_eq, cntW] at h
    by_cases c : k < t
    · exact ok_wid hw (by omega) h.1 k c
    · obtain rfl : k = t := by omega
      have h1 := (box_len hw k (by omega)).2
      have h2 := hw k ht
      have := Int.mul_le_mul_of_nonneg_right h1 (show 0 ≤ widW lo hi k by omega)
      omega
theorem box_sm {w : List Int} {L : List (List Int)} (hw : ∀ k, 0 ≤ w.getD k 0) (h : boxO (w.map fun x => -x) w = some L) : ∀ v ∈ L, v.length = w.length ∧ ∀ k, k < w.length → -2000 ≤ v.getD k 0 ∧ v.getD k 0 ≤ 2000 := by
  have hn : ∀ k, (w.map fun x => -x).getD k 0 = -(w.getD k 0) := fun k => by
    simp only [List.getD_eq_getElem?_getD, List.getElem?_map]; cases w[k]? <;> simp
  have hwd : ∀ k, widW (w.map fun x => -x) w k = 2 * w.getD k 0 + 1 := fun k => by rw [widW, hn]; omega
  have hl : (w.map fun x => -x).length = w.length := List.length_map _
  unfold boxO at h
  split at h
  · rename_i hok
    injection h with h
    subst h
    intro v hv
    rw [hl] at hv
    refine ⟨box_row v hv, fun k hk => ?_⟩
    have h1 := box_le (by omega) v hv k hk
    have h2 := ok_wid (fun k _ => by rw [hwd]; have := hw k; omega) (Nat.le_refl _) hok k (by omega)
    rw [hwd] at h1 h2
    rw [hn] at h1
    omega
  · cases h
theorem box_4000 {lo hi : List Int} {L : List (List Int)} (hw : ∀ k, k < lo.length → 1 ≤ widW lo hi k) (h : boxO lo hi = some L) : L.length ≤ 4000 := by
  unfold boxO at h
  split at h
  · rename_i hok
    injection h with h
    have h1 := (box_len hw lo.length (Nat.le_refl _)).1
    have h2 := okTo_cnt hok
    rw [h] at h1; omega
  · cases h
theorem neg_wid {w : List Int} (hw : ∀ k, 0 ≤ w.getD k 0) (k : Nat) : 1 ≤ widW (w.map fun x => -x) w k := by
  have hn : (w.map fun x => -x).getD k 0 = -(w.getD k 0) := by
    simp only [List.getD_eq_getElem?_getD, List.getElem?_map]; cases w[k]? <;> simp
  rw [widW, hn]; have := hw k; omega
theorem neg_num {w : List Int} (h : w.all numB = true) : ∀ n ∈ w.map fun x => -x, numB n = true := fun n hn => by
  obtain ⟨m, hm, rfl⟩ := List.mem_map.1 hn
  have := numB_true.1 (List.all_eq_true.1 h m hm)
  exact numB_true.2 (by omega)
theorem all_num {v : List Int} (h : ∀ k, k < v.length → -400000000 ≤ v.getD k 0 ∧ v.getD k 0 ≤ 400000000) : v.all numB = true := List.all_eq_true.2 fun x hx => by
  obtain ⟨k, hk, rfl⟩ := List.mem_iff_getElem.1 hx
  have := h k hk
  rw [getD_in hk] at this
  exact numB_true.2 this
end Go.Proofs.YtfkbjkmlpinoeaaGreat
