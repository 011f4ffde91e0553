/-
  CONTRACTS: the points of a body, of both packages.
-/
import Derived.Test.YtmkoifmokdmebaabTimes
import Derived.Test.YtmkoifmokdmebaabConeM
import Derived.Test.YtmkoifmokdmebaabSS
set_option linter.unusedVariables false
set_option linter.unusedSimpArgs false
namespace Go.Proofs.Ytmkoifmokdmebaa
open Go.RowKit

def inTo (p bs : List Int) (i : Nat) : Bool := decide (∀ q, q < i → p.getD q 0 ≤ bs.getD q 0)
theorem inTo_next {p bs : List Int} {i : Nat} : inTo p bs (i + 1) = (inTo p bs i && decide (p.getD i 0 ≤ bs.getD i 0)) := by
  rw [Bool.eq_iff_iff]
  simp only [inTo, decide_eq_true_eq, Bool.and_eq_true]
  constructor
  · intro h; exact ⟨fun q hq => h q (by omega), h i (by omega)⟩
  · rintro ⟨h1, h2⟩ q hq
    rcases Nat.lt_or_ge q i with c | c
    · exact h1 q c
    · obtain rfl : q = i := by omega
      exact h2
theorem inTo_false {p bs : List Int} {i n : Nat} (h : inTo p bs i = false) (hi : i ≤ n) : inTo p bs n = false := by
  cases c : inTo p bs n with
  | false => rfl
  | true =>
    have h2 := of_decide_eq_true c
    have : inTo p bs i = true := decide_eq_true fun q hq => h2 q (by omega)
    rw [h] at this; cases this
def ptIn (r c : Int) (xs bs v : List Int) : Bool := match mulZ r c v.length 1 xs v with
  | some p => inTo p bs p.length
  | none => false
def ptsO (r c : Int) (xs bs : List Int) (side : Int) : Option (List (List Int)) :=
  if bodyM r c xs bs && decide (0 ≤ side ∧ side ≤ 10) then (boxO (List.replicate c.toNat (-side)) (List.replicate c.toNat side)).map (List.filter (ptIn r c xs bs)) else none
/-- rows given back, or none of them and false -/
def PtsR (th t : TypeId) (o : Option (List (List Int))) (k : Nat) (v : AV) (Hout : List (Nat × Blk)) (n1 : Nat) : Prop := match o with
  | some L => BoxR th t L k v Hout n1
  | none => v = .tup [.one (.sl k 1 0 0 0), .one (.bool false)] ∧ Hout = [(k, .own th 0 (.rows false true []))] ∧ n1 = k + 1
theorem rep_num {s : Int} {n : Nat} (h : -10 ≤ s ∧ s ≤ 10) : ∀ m ∈ List.replicate n s, numB m = true := fun m hm => by
  rw [List.eq_of_mem_replicate hm]; exact numB_true.2 (by omega)
theorem rep_wid {s : Int} {n k : Nat} (h : 0 ≤ s) (hk : k < (List.replicate n (-s)).length) : 1 ≤ widW (List.replicate n (-s)) (List.replicate n s) k := by
  have : k < n := by simpa using hk
  simp [widW, this]; omega
/-- a part of the rows: those of which f holds -/
def partL (f : List Int → Bool) (l : List Row) : List Row := (l.filter fun r => f r.xs).map fun r => ⟨r.a, r.cap, r.xs, []⟩
theorem partL_next {f : List Int → Bool} {l : List Row} {j : Nat} (h : j < l.length) : partL f (l.take (j + 1)) = if f l[j].xs then partL f (l.take j) ++ [⟨l[j].a, l[j].cap, l[j].xs, []⟩] else partL f (l.take j) := by
  rw [List.take_succ_eq_append_getElem h]
  simp only [partL, List.filter_append, List.map_append]
  cases hf : f l[j].xs <;> simp [hf]
theorem partL_rows {f : List Int → Bool} {l : List Row} {L : List (List Int)} (h : rowsX l = L) : rowsX (partL f l) = L.filter f := by
  rw [← h, rowsX, rowsX, partL, List.filter_map, List.map_map]
  rfl
theorem partL_mem {f : List Int → Bool} {l : List Row} : ∀ r ∈ partL f l, ∃ r0 ∈ l, r0.a = r.a ∧ r0.cap = r.cap ∧ r0.xs = r.xs := fun r hr => by
  obtain ⟨r0, h0, rfl⟩ := List.mem_map.1 hr
  exact ⟨r0, (List.mem_filter.1 h0).1, rfl, rfl, rfl⟩
theorem partL_apart {f : List Int → Bool} {l : List Row} (h : l.Pairwise Apart) : (partL f l).Pairwise Apart :=
  List.pairwise_map.2 ((h.filter _).imp fun hab => hab)
theorem partL_len {f : List Int → Bool} {l : List Row} {j : Nat} : (partL f (l.take j)).length ≤ j := by
  rw [partL, List.length_map]
  exact Nat.le_trans (List.length_filter_le _ _) (List.length_take_le _ _)
end Go.Proofs.Ytmkoifmokdmebaa
