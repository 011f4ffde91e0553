/-
  TEXTS OF THE PROOF, put together: bCompW.
-/
import Derived.Test.YtfkbjkmlpinoeaaGreatR26
import Derived.Test.YtfkbjkmlpinoeaaGreatR20
import Derived.Lib.Walk
import Derived.Sort.WalkB12
import Derived.Lib.SliceRun
import Derived.Lib.SlicesCompact
import Derived.Deep.LoopGhost
import Derived.Deep.QuietTactic
import Derived.BigQuiet
set_option linter.unusedVariables false
set_option linter.unusedSimpArgs false
namespace Go.Proofs.YtfkbjkmlpinoeaaGreat
open Go.RowKit Go.Sort Go.Lib Go.Shelf
def keepR (l : List Row) (j : Nat) : Bool := decide (j = 0 ∨ (l.getD j rowD).xs ≠ (l.getD (j - 1) rowD).xs)
def upTo (l : List Row) (m : Nat) : List Row := ((List.range m).filter (keepR l)).map fun j => l.getD j rowD
def kept (l : List Row) : List Row := upTo l l.length
theorem upTo_succ (l : List Row) (m : Nat) : upTo l (m + 1) = upTo l m ++ (if keepR l m then [l.getD m rowD] else []) := by
  unfold upTo
  rw [List.range_succ, List.filter_append, List.map_append]
  congr 1
  by_cases h : keepR l m <;> simp [h]
theorem upTo_keep {l : List Row} {m : Nat} (h : keepR l m = true) : upTo l (m + 1) = upTo l m ++ [l.getD m rowD] := by rw [upTo_succ, if_pos h]
theorem upTo_skip {l : List Row} {m : Nat} (h : keepR l m = false) : upTo l (m + 1) = upTo l m := by rw [upTo_succ, h]; simp
theorem upTo_all {l : List Row} : ∀ {m : Nat}, m ≤ l.length → (∀ j, j < m → keepR l j = true) → upTo l m = l.take m
  | 0, _, _ => by simp [upTo]
  | m + 1, h, hk => by
    rw [upTo_keep (hk m (by omega)), upTo_all (by omega) fun j hj => hk j (by omega), List.take_succ_eq_append_getElem (by omega)]
    simp [show m < l.length by omega]
theorem upTo_len (l : List Row) : ∀ m, (upTo l m).length ≤ m
  | 0 => by simp [upTo]
  | m + 1 => by
    have := upTo_len l m
    rw [upTo_succ]
    split <;> simp <;> omega
theorem upTo_mem {l : List Row} {m : Nat} (h : m ≤ l.length) : ∀ r ∈ upTo l m, r ∈ l := fun r hr => by
  obtain ⟨j, hj, rfl⟩ := List.mem_map.1 hr
  have := List.mem_range.1 (List.mem_filter.1 hj).1
  rw [getD_in (by omega)]
  exact List.getElem_mem _
theorem kept_mem {l : List Row} : ∀ r ∈ kept l, r ∈ l := upTo_mem (Nat.le_refl _)
theorem keepR_lt_one (l : List Row) : ∀ j, j < 1 → keepR l j = true := fun j hj => by
  have : j = 0 := by omega
  simp [keepR, this]
theorem keepR_pos {l : List Row} {m : Nat} (h : (l.getD m rowD).xs ≠ (l.getD (m - 1) rowD).xs) : keepR l m = true := by
  unfold keepR; exact decide_eq_true (.inr h)
theorem keepR_neg {l : List Row} {m : Nat} (hm : 0 < m) (h : (l.getD m rowD).xs = (l.getD (m - 1) rowD).xs) : keepR l m = false := by
  unfold keepR; exact decide_eq_false fun c => by rcases c with c | c; · omega
                                                  · exact c h
theorem kept_at {l : List Row} : ∀ {j : Nat}, j < l.length → ∃ i, i ≤ j ∧ keepR l i = true ∧ (l.getD i rowD).xs = (l.getD j rowD).xs
  | 0, _ => ⟨0, Nat.le_refl _, keepR_lt_one l 0 (by omega), rfl⟩
  | j + 1, h => by
    by_cases e : (l.getD (j + 1) rowD).xs = (l.getD (j + 1 - 1) rowD).xs
    · obtain ⟨i, h1, h2, h3⟩ := kept_at (l := l) (j := j) (by omega)
      exact ⟨i, by omega, h2, by rw [h3, e]; rfl⟩
    · exact ⟨j + 1, Nat.le_refl _, keepR_pos e, rfl⟩
theorem kept_adds {l : List Row} {raw : List (List Int)} (hm : ∀ x, x ∈ l.map Row.xs ↔ x ∈ raw) (hs : l.Pairwise fun x y => ¬ cmpL y.xs x.xs < 0) : (kept l).map Row.xs = addsL raw := by
  refine strict_ext ?_ (addsL_strict raw) fun x => ?_
  · rw [List.pairwise_iff_getElem] at hs
    have hord : ∀ i j, i ≤ j → j < l.length → ¬ cmpL (l.getD j rowD).xs (l.getD i rowD).xs < 0 := fun i j hij hj => by
      rcases Nat.lt_or_ge i j with c | c
      · have := hs i j (by omega) hj c
        rw [getD_in hj, getD_in (show i < l.length by omega)]
        exact this
      · obtain rfl : i = j := by omega
        rw [cmpL_self]; omega
    unfold StrictL kept upTo
    rw [List.map_map, List.pairwise_map]
    refine List.Pairwise.imp_of_mem (R := fun a b => a < b) (fun {a b} ha hb hab => ?_) (List.Pairwise.filter _ List.pairwise_lt_range)
    have hb1 := List.mem_range.1 (List.mem_filter.1 hb).1
    have hb2 := (List.mem_filter.1 hb).2
    simp only [keepR, decide_eq_true_eq] at hb2
    have hne := hb2.resolve_left (by omega)
    have o1 := hord a (b - 1) (by omega) (by omega)
    have o2 := hord (b - 1) b (by omega) hb1
    simp only [Function.comp]
    have n1 := cmpL_neg (l.getD a rowD).xs (l.getD (b - 1) rowD).xs
    have n2 := cmpL_neg (l.getD (b - 1) rowD).xs (l.getD b rowD).xs
    have lt2 : cmpL (l.getD (b - 1) rowD).xs (l.getD b rowD).xs < 0 := by
      have : cmpL (l.getD (b - 1) rowD).xs (l.getD b rowD).xs ≠ 0 := fun e => hne (cmpL_eq e).symm
      omega
    by_cases e0 : cmpL (l.getD a rowD).xs (l.getD (b - 1) rowD).xs = 0
    · rw [cmpL_eq e0]; exact lt2
    · exact cmpL_trans (by omega) lt2
  · rw [mem_addsL, ← hm]
    constructor
    · intro h
      obtain ⟨r, hr, rfl⟩ := List.mem_map.1 h
      exact List.mem_map.2 ⟨r, kept_mem r hr, rfl⟩
    · intro h
      obtain ⟨r, hr, rfl⟩ := List.mem_map.1 h
      obtain ⟨j, hj, rfl⟩ := List.mem_iff_getElem.1 hr
      obtain ⟨i, h1, h2, h3⟩ := kept_at hj
      rw [getD_in hj] at h3
      rw [← h3]
      exact List.mem_map.2 ⟨_, List.mem_map.2 ⟨i, List.mem_filter.2 ⟨List.mem_range.2 (by omega), h2⟩, rfl⟩, rfl⟩
def curR (l : List Row) (m : Nat) : List Row := upTo l m ++ l.drop (upTo l m).length
theorem curR_len {l : List Row} {m : Nat} (h : m ≤ l.length) : (curR l m).length = l.length := by
  have := upTo_len l m
  simp [curR]; omega
theorem curR_at {l : List Row} {m j : Nat} (h : (upTo l m).length ≤ j) : (curR l m).getD j rowD = l.getD j rowD := by
  unfold curR
  rw [List.getD_eq_getElem?_getD, List.getElem?_append_right h, List.getElem?_drop, ← List.getD_eq_getElem?_getD]
  congr 1; omega
theorem curR_start {l : List Row} {k : Nat} (hk : k < l.length) (hall : ∀ j, j < k → keepR l j = true) (hd : keepR l k = false) : curR l (k + 1) = l ∧ (upTo l (k + 1)).length = k := by
  have h := upTo_all (by omega) hall
  unfold curR
  rw [upTo_skip hd, h, List.length_take, Nat.min_eq_left (by omega), List.take_append_drop]
  exact ⟨rfl, rfl⟩
theorem curR_keep {l : List Row} {m : Nat} (hm : m < l.length) (h : keepR l m = true) : (curR l m).set (upTo l m).length (l.getD m rowD) = curR l (m + 1) := by
  have h1 := upTo_len l m
  unfold curR
  rw [upTo_keep h, List.set_append_right _ _ (Nat.le_refl _), Nat.sub_self, List.drop_eq_getElem_cons (by omega), List.set_cons_zero, List.length_append, List.append_assoc]
  rfl
theorem curR_skip {l : List Row} {m : Nat} (h : keepR l m = false) : curR l (m + 1) = curR l m := by unfold curR; rw [upTo_skip h]
theorem getBang (l : List Row) (j : Nat) (h : j < l.length) : l.toArray[j]! = l.getD j rowD := by
  rw [getD_in h, getElem!_pos _ j (by simpa using h)]; simp
theorem grown_row {w : World} {b q : Nat} (d : Array Row) : w.grownBy (putRow encR (Sort.ahead w q) b 0 d) (some b) := by
  refine ⟨rfl, rfl, rfl, by simp [putRow, mapBlock, Sort.ahead], fun k hk hne => ?_⟩
  have : b ≠ k := fun e => hne (by rw [e])
  simp [putRow, mapBlock, Sort.ahead, Array.getElem?_modify, this]
theorem holds_aheadR {w : World} {b q : Nat} {d : Array Row} (h : Holds encR w b 0 d) : Holds encR (Sort.ahead w q) b 0 d := holds_ahead encR w q b 0 d h
theorem storeR {w wr : World} {n b : Nat} {l : List Row} {i : Nat} (hi : i < l.length) (hwr : wr = putRow encR (Sort.ahead w n) b 0 l.toArray) (x : Row) :
    wr.setCell ⟨b, i, none⟩ (encR x) = putRow encR (Sort.ahead w n) b 0 (l.set i x).toArray := by
  subst hwr
  have := putRow_set encR (Sort.ahead w n) b 0 l.toArray i x (by simpa using hi)
  rw [Nat.zero_add] at this
  rw [this]
  simp
theorem moreR {w : World} {n m b : Nat} (d : Array Row) : (putRow encR (Sort.ahead w n) b 0 d).drewN m = putRow encR (Sort.ahead w (n + m)) b 0 d := by
  rw [putRow_drewN]
theorem lay_sz : ∀ (xs : List Row) (d : Array Row) (k : Nat), (lay d k xs).size = d.size
  | [], _, _ => rfl
  | x :: r, d, k => by rw [lay, lay_sz r]; simp
theorem lay_take {l : List Row} {m kk : Nat} {xs : List Row} (hk : (upTo l m).length = kk) (h : kk + xs.length ≤ (curR l m).length) : (lay (curR l m).toArray kk xs).toList.take kk = upTo l m := by
  apply List.ext_getElem?
  intro j
  by_cases hj : j < kk
  · rw [List.getElem?_take_of_lt hj, Array.getElem?_toList, lay_get? xs _ kk j (by simpa using h), if_neg (by omega)]
    simp only [List.getElem?_toArray, curR]
    rw [List.getElem?_append_left (by omega)]
  · rw [List.getElem?_take_eq_none (by omega), List.getElem?_eq_none (by omega)]
structure CompOK (w : World) (b : Nat) (l : List Row) : Prop where
  hH : Holds encR w b 0 l.toArray
  hb : b < w.heap.size
  row : ∀ r ∈ l, RowAt w false r
  far : ∀ r ∈ l, ∀ p, r.a = some p → 0 < r.len false → p.1 ≠ b
  len : ∀ r ∈ l, r.xs.length ≤ 1000000
theorem CompOK.at_ {w : World} {b : Nat} {l : List Row} (h : CompOK w b l) {m q : Nat} (hm : m ≤ l.length) {j : Nat} (h1 : (upTo l m).length ≤ j) (h2 : j < l.length) :
    (putRow encR (Sort.ahead w q) b 0 (curR l m).toArray).cell? ⟨b, j, none⟩ = some (encR (l.getD j rowD)) ∧ (putRow encR (Sort.ahead w q) b 0 (curR l m).toArray).frozen? ⟨b, j, none⟩ = false := by
  have hh := holds_putRow encR (Sort.ahead w q) b 0 l.toArray (curR l m).toArray (holds_aheadR h.hH) (by simp [curR_len hm])
  have := hh j (by simpa [curR_len hm] using h2)
  rw [Nat.zero_add, getBang _ _ (by rw [curR_len hm]; exact h2), curR_at h1] at this
  exact this
theorem CompOK.eq {w : World} {b : Nat} {l : List Row} (h : CompOK w b l) {g : Nat} (hE : ReadsR Tryz.prog g fun x y => .bool (decide (x = y))) {W : World} (hg : w.grownBy W (some b)) {i j : Nat} (hi : i < l.length) (hj : j < l.length) (n : Nat) :
    Calls Tryz.prog g #[encR (l.getD i rowD), encR (l.getD j rowD)] (W.drewN n) fun e w' => e = .returned (.bool (decide ((l.getD i rowD).xs = (l.getD j rowD).xs))) ∧ ∃ m, w' = W.drewN m := by
  have hin : ∀ k, k < l.length → l.getD k rowD ∈ l := fun k hk => by rw [getD_in hk]; exact List.getElem_mem _
  have ha : ∀ k, k < l.length → RowAt W false (l.getD k rowD) := fun k hk => (h.row _ (hin k hk)).grown hg fun p hp hl e => h.far _ (hin k hk) p hp hl (by injection e)
  exact Calls.quiet_of (hE (W.drewN n) _ _ (ha i hi) (ha j hj) (h.len _ (hin i hi)) (h.len _ (hin j hj)))
set_option maxHeartbeats 4000000 in
set_option maxRecDepth 1000000 in
theorem compact_any (g : Nat) (hE : ReadsR Tryz.prog g fun x y => .bool (decide (x = y))) (eg : ∀ args w, (callFunc g args).run Tryz.prog w = .ok (.enter g args) w) (l : List Row) (b cap : Nat) (w : World) (hw : CompOK w b l) (hl : l.length ≤ 1000000) (hcap : l.length ≤ cap) (h2 : 2 ≤ l.length) :
    Calls Tryz.prog 53 #[.slice (some ⟨b, 0, none⟩) l.length cap, .func (.func g) #[] #[]] w fun e w' => e = .returned (.slice (some ⟨b, 0, none⟩) (kept l).length cap) ∧ ∃ q D, w' = putRow encR (Sort.ahead w q) b 0 D ∧ D.size = l.length ∧ D.toList.take (kept l).length = kept l := by
  have hcl0 := encR_one.cells
  simp only [Value.cells] at hcl0
  have hst := encR_one.store Tryz.prog
  have HW : Aside (CompOK w b l) := hw
  have HE : Aside (ReadsR Tryz.prog g fun x y => .bool (decide (x = y))) := hE
  clear hw hE
  generalize hn : l.length = n at *
  have HN : Aside (l.length = n) := hn
  clear hn
  go_enter Tryz.func53, Tryz.ntmps53
  go_wp2
  go_loopg [5] n (fun gh s5 wr => ∃ k q : Nat, 1 ≤ k ∧ k ≤ n ∧ n - k ≤ gh ∧ s5 = .int .i64 k ∧ wr = w.drewN q ∧ Aside (∀ j, j < k → keepR l j = true))
  case atStart => exact ⟨1, 0, Nat.le_refl _, by omega, by omega, rfl, rfl, keepR_lt_one l⟩
  case round =>
    obtain ⟨k, q, hk1, hk, hg, rfl, rfl, hall⟩ := hrel
    by_cases hlt : k < n
    · have hc : ∀ j, j < n → w.cell? ⟨b, j, none⟩ = some (encR (l.getD j rowD)) := fun j hj => by
        have := (HW.out.hH j (by simpa [HN.out] using hj)).1
        rw [Nat.zero_add, getBang _ _ (by rw [HN.out]; exact hj)] at this
        exact this
      have c1 := hc k hlt
      have c0 := hc (k - 1) (by omega)
      clear hc
      have hcall : ∀ m, Calls Tryz.prog g #[encR (l.getD k rowD), encR (l.getD (k - 1) rowD)] ((w.drewN q).drewN m) fun e w' => e = .returned (.bool (decide ((l.getD k rowD).xs = (l.getD (k - 1) rowD).xs))) ∧ ∃ m', w' = (w.drewN q).drewN m' := fun m =>
        HW.out.eq HE.out (W := w.drewN q) ⟨rfl, rfl, rfl, Nat.le_refl _, fun _ _ _ => rfl⟩ (by rw [HN.out]; exact hlt) (by rw [HN.out]; omega) m
      by_cases hdup : (l.getD k rowD).xs = (l.getD (k - 1) rowD).xs
      · have D : Aside (keepR l k = false) := keepR_neg (by omega) hdup
        rw [decide_eq_true hdup] at hcall
        simp only [World.drewN_drewN] at hcall
        clear hdup
        generalize l.getD k rowD = x at c1 hcall
        generalize l.getD (k - 1) rowD = y at c0 hcall
        go_wp2_with fail
        go_big_quiet (exact hcall _)
        go_wp2
        clear c0 c1 hcall
        go_loopg [5, 7] n (fun gh s5 s7 wr => ∃ m k2 q2 : Nat, m = k + k2 ∧ s5 = .int .i64 (upTo l m).length ∧ s7 = .int .i64 k2 ∧ 1 ≤ k2 ∧ m ≤ n ∧ n - m ≤ gh ∧ Aside ((upTo l m).length < m) ∧ Aside (wr = putRow encR (Sort.ahead w q2) b 0 (curR l m).toArray))
        case atStart =>
          obtain ⟨e1, e2⟩ := curR_start (by rw [HN.out]; exact hlt) hall.out D.out
          refine ⟨k + 1, 1, q + nq, rfl, by rw [e2], rfl, Nat.le_refl _, by omega, by omega, ?_, ?_⟩
          · show _ < _
            omega
          · show _ = _
            rw [e1, putRow_self encR (Sort.ahead w (q + nq)) b 0 l.toArray (holds_aheadR HW.out.hH)]
            rfl
        case round =>
          obtain ⟨m, k2, q2, hm, rfl, rfl, h1, hle, hg2, hup, hwr⟩ := hrel
          have hul := hup.out
          have hgr : w.grownBy wr (some b) := by rw [hwr.out]; exact grown_row _
          by_cases hlt2 : m < n
          · obtain ⟨cm, _⟩ := HW.out.at_ (q := q2) (m := m) (by rw [HN.out]; exact hle) (j := m) (by omega) (by rw [HN.out]; exact hlt2)
            obtain ⟨cp, _⟩ := HW.out.at_ (q := q2) (m := m) (by rw [HN.out]; exact hle) (j := m - 1) (by omega) (by rw [HN.out]; omega)
            obtain ⟨ck, fk⟩ := HW.out.at_ (q := q2) (m := m) (by rw [HN.out]; exact hle) (j := (upTo l m).length) (Nat.le_refl _) (by rw [HN.out]; omega)
            rw [← hwr.out] at cm cp ck fk
            have hcall : ∀ a, Calls Tryz.prog g #[encR (l.getD m rowD), encR (l.getD (m - 1) rowD)] (wr.drewN a) fun e w' => e = .returned (.bool (decide ((l.getD m rowD).xs = (l.getD (m - 1) rowD).xs))) ∧ ∃ m', w' = wr.drewN m' := fun a =>
              HW.out.eq HE.out hgr (by rw [HN.out]; exact hlt2) (by rw [HN.out]; omega) a
            subst hm
            rw [show k + k2 - 1 = k + (k2 - 1) by omega] at cp
            have hkk : Aside ((upTo l (k + k2)).length < k + k2) := hup.out
            clear hul hup hgr
            by_cases hdup2 : (l.getD (k + k2) rowD).xs = (l.getD (k + k2 - 1) rowD).xs
            · have D2 : Aside (keepR l (k + k2) = false) := keepR_neg (by omega) hdup2
              rw [decide_eq_true hdup2] at hcall
              clear hdup2
              generalize l.getD (k + k2) rowD = x2 at cm hcall
              rw [show k + k2 - 1 = k + (k2 - 1) by omega] at hcall
              generalize l.getD (k + (k2 - 1)) rowD = y2 at cp hcall
              generalize hK : (upTo l (k + k2)).length = kk at *
              go_wp2_with fail
              go_big_quiet (exact hcall _)
              go_wp2
              go_roundg (n - (k + (k2 + 1)))
              case measure => omega
              case rel =>
                have hlk := hkk.out
                refine ⟨k + (k2 + 1), k2 + 1, q2 + nq, rfl, by rw [← Nat.add_assoc, upTo_skip D2.out, hK], by go_num, by omega, by omega, Nat.le_refl _, ?_, ?_⟩
                · show _ < _
                  rw [← Nat.add_assoc, upTo_skip D2.out]; omega
                · show _ = _
                  rw [hwr.out, moreR, ← Nat.add_assoc, curR_skip D2.out]
            · have D2 : Aside (keepR l (k + k2) = true) := keepR_pos hdup2
              rw [decide_eq_false hdup2] at hcall
              clear hdup2
              generalize hX : l.getD (k + k2) rowD = x2 at cm hcall
              rw [show k + k2 - 1 = k + (k2 - 1) by omega] at hcall
              generalize l.getD (k + (k2 - 1)) rowD = y2 at cp hcall
              generalize hK : (upTo l (k + k2)).length = kk at *
              generalize l.getD kk rowD = z2 at ck
              have HX : Aside (l.getD (k + k2) rowD = x2) := hX
              clear hX
              have hkn : kk < n := by have := hkk.out; omega
              go_wp2_with fail
              go_big_quiet (exact hcall _)
              go_wp2
              go_roundg (n - (k + (k2 + 1)))
              case measure => omega
              case rel =>
                have hlk := hkk.out
                refine ⟨k + (k2 + 1), k2 + 1, q2 + nq, rfl, by rw [← Nat.add_assoc, upTo_keep D2.out, List.length_append, hK]; go_num, by go_num, by omega, by omega, Nat.le_refl _, ?_, ?_⟩
                · show _ < _
                  rw [← Nat.add_assoc, upTo_keep D2.out, List.length_append]; simp; omega
                · show _ = _
                  have := curR_keep (l := l) (m := k + k2) (by rw [HN.out]; exact hlt2) D2.out
                  rw [← Nat.add_assoc, ← this, HX.out, hK]
                  have e1 : wr.drewN nq = putRow encR (Sort.ahead w (q2 + nq)) b 0 (curR l (k + k2)).toArray := by rw [hwr.out, moreR]
                  exact storeR (by rw [curR_len (by rw [HN.out]; exact hle), HN.out]; exact hkn) e1 x2
          · have hend : m = n := by omega
            subst hend
            have hlk : (curR l m).length = m := by rw [curR_len (by rw [HN.out]; exact Nat.le_refl _), HN.out]
            have hHk : ∀ j, j < m → (wr.cell? ⟨b, j, none⟩).isSome = true ∧ wr.frozen? ⟨b, j, none⟩ = false := fun j hj => by
              have hh := holds_putRow encR (Sort.ahead w q2) b 0 l.toArray (curR l m).toArray (holds_aheadR HW.out.hH) (by simp [hlk, HN.out])
              have := hh j (by simp [hlk, hj])
              rw [Nat.zero_add, ← hwr.out] at this
              rw [this.1]; exact ⟨rfl, this.2⟩
            have hcl : ∀ ty, (Builtin.clear_ #[37] ty #[.slice (some ⟨b, (upTo l m).length, none⟩) (m - (upTo l m).length) (cap - (upTo l m).length)]).run Tryz.prog wr = .ok (.tuple #[]) (wr.setCells b (upTo l m).length (List.replicate (m - (upTo l m).length) (encR rowD))) :=
              fun ty => Lib.run_clear_slice wr _ _ ty _ Tryz.underlying37 (fun w => Tryz.zeroValue24 w) (encR_one.cells rowD) (encR_one rowD) b (upTo l m).length _ _ (by omega) (fun j hj => (hHk _ (by omega)).1) (fun j hj => (hHk _ (by omega)).2)
            have e0 : Aside (wr.setCells b (upTo l m).length (List.replicate (m - (upTo l m).length) (encR rowD)) = putRow encR (Sort.ahead w q2) b 0 (lay (curR l m).toArray (upTo l m).length (List.replicate (m - (upTo l m).length) rowD))) := by
              show _ = _
              have := putRow_setCells encR (Sort.ahead w q2) b 0 (List.replicate (m - (upTo l m).length) rowD) (curR l m).toArray (upTo l m).length (by simp [hlk]; omega)
              rw [Nat.zero_add, List.map_replicate] at this
              rw [hwr.out]; exact this
            have R : Aside (kept l = upTo l m) := by
              show _ = _
              rw [kept, HN.out]
            generalize hK : (upTo l m).length = kk at *
            have hK2 : Aside ((upTo l m).length = kk) := hK
            have hkn : kk < m := hul
            clear hK hHk hgr
            subst hm
            go_wp2
            go_ret
            rw [R.out, hK2.out]
            refine ⟨rfl, q2, _, e0.out, ?_, ?_⟩
            · rw [lay_sz]; simp [hlk, HN.out]
            · exact lay_take hK2.out (by rw [hlk]; simp; omega)
      · have D : Aside (keepR l k = true) := keepR_pos hdup
        rw [decide_eq_false hdup] at hcall
        simp only [World.drewN_drewN] at hcall
        clear hdup
        generalize l.getD k rowD = x at c1 hcall
        generalize l.getD (k - 1) rowD = y at c0 hcall
        go_wp2_with fail
        go_big_quiet (exact hcall _)
        go_wp2
        go_roundg (n - (k + 1))
        case measure => omega
        case rel =>
          refine ⟨k + 1, q + nq, by omega, by omega, Nat.le_refl _, by go_num, rfl, (show Aside _ from fun j hj => ?_)⟩
          by_cases e : j = k
          · subst e; exact D.out
          · exact hall.out j (by omega)
    · have : k = n := by omega
      subst this
      have R : Aside (kept l = l) := by
        show _ = _
        unfold kept
        rw [upTo_all (Nat.le_refl _) (by rw [HN.out]; exact hall.out), List.take_of_length_le (Nat.le_refl _)]
      go_wp2
      go_ret
      refine ⟨by rw [R.out, HN.out]; rfl, q, l.toArray, ?_, by simp [HN.out], by rw [R.out]; simp⟩
      rw [putRow_self encR (Sort.ahead w q) b 0 l.toArray (holds_aheadR HW.out.hH)]
      rfl
def CompR (t : TypeId) (cap : Nat) (t' : TypeId) (l : List Row) (v : AV) (Hout : List (Nat × Blk)) (n : Nat) : Prop :=
  v = vS 1 1 0 (kept l).length cap ∧ Hout = [(1, .own t cap (.rows false true (kept l))), (2, .tok t' false l)] ∧ n = 3
theorem kept_short {l : List Row} (h : l.length < 2) : kept l = l := by
  unfold kept
  rw [upTo_all (Nat.le_refl _) fun j hj => keepR_lt_one l j (by omega), List.take_of_length_le (Nat.le_refl _)]
theorem d_compShort (g : Nat) (l : List Row) (t t' : TypeId) (cap : Nat) (h : l.length < 2) :
    Does Tryz.prog 53 [vS 1 1 0 l.length cap, .one (.fn g [])] [(1, .own t cap (.rows false false l)), (2, .tok t' false l)] 3 (CompR t cap t' l) := by
  refine Does.intro TT Tryz.func53 rfl (by kernel_rfl) Zz Zz fun E hE => ?_
  ((first | refine awpL_ghost (Ghost.tell 1 2 (.rows false true l) Zz Zz Zz (fun x hx => by obtain ⟨r, hr, rfl⟩ := List.mem_map.1 hx; exact ⟨rfl, hr⟩)) ?_ | refine awp_ghost (Ghost.tell 1 2 (.rows false true l) Zz Zz Zz (fun x hx => by obtain ⟨r, hr, rfl⟩ := List.mem_map.1 hx; exact ⟨rfl, hr⟩)) ?_ | refine awpH_ghost (Ghost.tell 1 2 (.rows false true l) Zz Zz Zz (fun x hx => by obtain ⟨r, hr, rfl⟩ := List.mem_map.1 hx; exact ⟨rfl, hr⟩)) ?_ | refine awpHop_ghost (Ghost.tell 1 2 (.rows false true l) Zz Zz Zz (fun x hx => by obtain ⟨r, hr, rfl⟩ := List.mem_map.1 hx; exact ⟨rfl, hr⟩)) ?_); rintro _ _ ⟨rfl, rfl⟩)
  ((repeat' (first | refine stx ?_ | (refine stq ?_ ?_ <;> (intro hc; ((try simp at hc) <;> try contradiction))) | fail)) <;> try (exfalso; omega))
  exact fin rfl w_3 [] (vS 1 1 0 l.length cap) [(1, .own t cap (.rows false true l)), (2, .tok t' false l)] 3 (by unfold CompR; rw [kept_short h]; exact ⟨rfl, rfl, rfl⟩) rfl ⟨trivial, ⟨rfl, rfl, trivial⟩, rfl⟩ rfl
theorem d_compRows (g : Nat) (eg : ∀ args w, (callFunc g args).run Tryz.prog w = .ok (.enter g args) w) (hE : ReadsR Tryz.prog g fun x y => .bool (decide (x = y)))
    (l : List Row) (t t' : TypeId) (cap : Nat) (hl : l.length ≤ 1000000) (hr : ∀ r ∈ l, r.xs.length ≤ 1000000) :
    Does Tryz.prog 53 [vS 1 1 0 l.length cap, .one (.fn g [])] [(1, .own t cap (.rows false false l)), (2, .tok t' false l)] 3 (CompR t cap t' l) := by
  by_cases hs : l.length < 2
  · exact d_compShort g l t t' cap hs
  refine ⟨?_, fun ρ w hH0 hk => ?_⟩
  · exact ⟨_, Tryz.func53, by kernel_rfl, by kernel_rfl⟩
  have hH := rows_told hH0
  clear hH0
  obtain ⟨b, cur, hp, hb, h1, h2, h3, h4⟩ := rows_at (hH.blk 1 _ rfl) (by intro e; rw [e] at hs; simp at hs)
  have hrow : ∀ x ∈ l, RowAt w false x := fun x hx => hH.rows 1 _ rfl _ (List.mem_map.2 ⟨x, hx, rfl⟩)
  have hfar : ∀ x ∈ l, ∀ p, x.a = some p → 0 < x.len false → p.1 ≠ b := fun x hx p hp' hl' e => hH.far 1 1 _ _ (b, 0) p.1 Zz Zz Zz hp ⟨_, List.mem_map.2 ⟨x, hx, rfl⟩, hl', p, hp', rfl⟩ e.symm
  have hok : CompOK w b l := ⟨holds_blk l.toArray hb (by simpa using h4), (Array.getElem?_eq_some_iff.1 hb).1, hrow, hfar, hr⟩
  have hc := compact_any g hE eg l b cap w hok hl h1 (by omega)
  have hargs : ([vS 1 1 0 l.length cap, AV.one (.fn g [])].map (AV.conc ρ)).toArray = #[.slice (some ⟨b, 0, none⟩) l.length cap, .func (.func g) #[] #[]] := by
    simp [vS, AV.conc, SV.conc, adr, hp]
  rw [hargs]
  refine Calls.mono hc fun e w' ⟨he, q, D, hw, hD, hT⟩ => ?_
  have hw' : w' = sortWorld encR w b 0 q D #[] := by rw [hw]; unfold sortWorld; rw [grow_empty]
  have hkl : (kept l).length ≤ l.length := upTo_len l l.length
  have hown : w'.ownsRow 0 t 1 (.slice (some ⟨b, 0, none⟩) (kept l).length cap) (kept l).length ((kept l).map encR) := by
    refine ⟨by simp, .inr ⟨b, cap, _, rfl, Nat.zero_le _, by rw [hw']; exact heap_put D hb, by omega, h2, by simp [putCells, h3], ?_⟩⟩
    rw [Nat.mul_one, take_put D (by omega) (kept l).length (by omega), hT]
  have hH2 := rows_over hH hp (w' := w') (by rw [hw']; exact grown_put D) hown fun r hr => kept_mem r hr
  have hkeys : ∀ k ∈ (vS 1 1 0 (kept l).length cap).keys, k < 3 := by
    intro k hk
    have h0 : k = 1 := by simpa [vS, AV.keys, SV.keys] using hk
    omega
  refine ⟨ρ, vS 1 1 0 (kept l).length cap, _, 3, ⟨rfl, rfl, rfl⟩, ?_, hH2, hkeys, rows_sealed hH2 fun r hr => kept_mem r hr⟩
  rw [he]; simp [vS, AV.conc, SV.conc, adr, hp]
end Go.Proofs.YtfkbjkmlpinoeaaGreat
