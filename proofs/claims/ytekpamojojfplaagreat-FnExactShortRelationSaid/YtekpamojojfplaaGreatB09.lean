/-
  TEXTS OF THE PROOF, put together: Slice, bSlice, bSortG, bSortV, pLex, bCmpW, pHilb.
-/
import Derived.Test.YtekpamojojfplaaGreatB08
import Derived.OwnWalk
import Derived.Laws.OwnMore
import Derived.ChangeSlices
import Derived.WideShapes
import Derived.Test.YtekpamojojfplaaGreatB07
import Derived.Shelf.SlSortCmp.WholeK
import Derived.Shelf.SlSortCmp.NoneTotal
import Derived.Test.YtekpamojojfplaaGreatB01
import Derived.Shelf.RegionOpenPlain
set_option linter.unusedVariables false
set_option linter.unusedSimpArgs false
namespace Go.Proofs.YtekpamojojfplaaGreat
open Go.RowKit
def RI (w : World) (A : Option Addr) (xs : List Int) : Prop :=
  0 < xs.length → ∃ b off, A = some ⟨b, off, none⟩ ∧ b < w.heap.size ∧ ∀ k (h : k < xs.length), w.cell? ⟨b, off + k, none⟩ = some (.int .i64 xs[k])
theorem RI.nil {w : World} {A : Option Addr} : RI w A [] := fun h => absurd h (by simp)
theorem RI.up {w W : World} {A : Option Addr} {xs : List Int} (h : RI w A xs) (hb : Below w.heap.size w W) : RI W A xs := fun h0 => by
  obtain ⟨b, off, rfl, hlt, hc⟩ := h h0
  exact ⟨b, off, rfl, Nat.lt_of_lt_of_le hlt hb.size, fun k hk => (hb.cell (p := ⟨b, off + k, none⟩) hlt).trans (hc k hk)⟩
theorem RI.below {B : Nat} {w W : World} {A : Option Addr} {xs : List Int} (h : RI w A xs) (hB : w.heap.size ≤ B) (hb : Below B w W) : RI W A xs := h.up (hb.mono hB)
theorem RI.at_ {w : World} {A : Option Addr} {xs : List Int} (h : RI w A xs) {k : Nat} (hk : k < xs.length) :
    ∃ b off, A = some ⟨b, off, none⟩ ∧ b < w.heap.size ∧ w.cell? ⟨b, off + k, none⟩ = some (.int .i64 xs[k]) := by
  obtain ⟨b, off, e, hb, hc⟩ := h (by omega)
  exact ⟨b, off, e, hb, hc k hk⟩
theorem RI.take {w : World} {A : Option Addr} {xs : List Int} (h : RI w A xs) (n : Nat) : RI w A (xs.take n) := fun h0 => by
  have h0' : 0 < n ∧ 0 < xs.length := by rw [List.length_take] at h0; omega
  obtain ⟨b, off, rfl, hlt, hc⟩ := h h0'.2
  refine ⟨b, off, rfl, hlt, fun k hk => ?_⟩
  have hk' : k < xs.length := by simp at hk; omega
  rw [hc k hk']; simp
def OI (w : World) (base : Nat) (A : Option Addr) (n c : Nat) (xs : List Int) : Prop :=
  xs.length = n ∧ w.ownsRow base 3 1 (.slice A n c) n (xs.map (Value.int .i64))
theorem OI.none (w : World) (base : Nat) : OI w base .none 0 0 [] := ⟨rfl, World.ownsRow_nil w base _ _⟩
theorem OI.len {w : World} {base : Nat} {A : Option Addr} {n c : Nat} {xs : List Int} (h : OI w base A n c xs) : xs.length = n := h.1
theorem OI.shape {w : World} {base : Nat} {A : Option Addr} {n c : Nat} {xs : List Int} (h : OI w base A n c xs) : (A = Option.none ∧ n = 0 ∧ c = 0) ∨ ∃ g, A = some ⟨g, 0, Option.none⟩ ∧ base ≤ g ∧ g < w.heap.size ∧ n ≤ c := by
  obtain ⟨hl, ho⟩ := h
  rcases ho.2 with ⟨hv, hn⟩ | ⟨g, cap, cur, hv, hb, hg, hc, _⟩
  · left; injection hv with h1 h2 h3; exact ⟨h1, hn, h3⟩
  · right; injection hv with h1 h2 h3; subst h1; subst h3; exact ⟨g, rfl, hb, (Array.getElem?_eq_some_iff.1 hg).1, hc⟩
theorem OI.cap {w : World} {base : Nat} {A : Option Addr} {n c : Nat} {xs : List Int} (h : OI w base A n c xs) : n ≤ c := by
  rcases h.shape with ⟨_, h1, h2⟩ | ⟨g, _, _, _, h3⟩ <;> omega
theorem OI.cell {w : World} {base g n c : Nat} {xs : List Int} (h : OI w base (some ⟨g, 0, .none⟩) n c xs) {k : Nat} (hk : k < xs.length) : w.cell? ⟨g, k, .none⟩ = some (.int .i64 xs[k]) := by
  have := World.ownsRow.cellAt (w := w) (j := k) h.2 (by have := h.1; omega)
  rw [this]; simp [hk]
theorem OI.frozen {w : World} {base g n c : Nat} {xs : List Int} (h : OI w base (some ⟨g, 0, .none⟩) n c xs) (k : Nat) : w.frozen? ⟨g, k, .none⟩ = false :=
  World.ownsRow.frozenAt (w := w) h.2 k
theorem OI.store {w : World} {base g n c : Nat} {xs : List Int} (h : OI w base (some ⟨g, 0, .none⟩) n c xs) (k : Nat) (x : Int) :
    OI (w.setCell ⟨g, k, .none⟩ (.int .i64 x)) base (some ⟨g, 0, .none⟩) n c (xs.set k x) := by
  refine ⟨by simp [h.1], ?_⟩
  have := (World.ownsRow.stored (w := w) h.2 k (.int .i64 x)).1
  simpa [List.map_set] using this
theorem OI.kept {w w' : World} {row : Option Nat} {base : Nat} {A : Option Addr} {n c : Nat} {xs : List Int} (h : OI w base A n c xs) (hg : w.grownBy w' row) (hne : ∀ a, A = some a → some a.block ≠ row) : OI w' base A n c xs :=
  ⟨h.1, h.2.kept hg (by cases A with
    | none => left; rfl
    | some a => right; exact hne a rfl)⟩
theorem OI.up {w W : World} {base : Nat} {A : Option Addr} {n c : Nat} {xs : List Int} (h : OI w base A n c xs) (hb : Below w.heap.size w W) : OI W base A n c xs := by
  refine ⟨h.1, h.2.1, ?_⟩
  rcases h.2.2 with h0 | ⟨g, cap, cur, hv, hbg, hg, r⟩
  · exact .inl h0
  · exact .inr ⟨g, cap, cur, hv, hbg, (hb.block g (Array.getElem?_eq_some_iff.1 hg).1).trans hg, r⟩
theorem OI.mono {w : World} {base base' : Nat} {A : Option Addr} {n c : Nat} {xs : List Int} (h : OI w base A n c xs) (hb : base' ≤ base) : OI w base' A n c xs := by
  refine ⟨h.1, h.2.1, ?_⟩
  rcases h.2.2 with h0 | ⟨g, cap, cur, hv, hbg, r⟩
  · exact .inl h0
  · exact .inr ⟨g, cap, cur, hv, Nat.le_trans hb hbg, r⟩
theorem OI.alloc {w : World} {base : Nat} {A : Option Addr} {n c : Nat} {xs : List Int} (h : OI w base A n c xs) (o : Obj) : OI (w.alloc o) base A n c xs := h.up ((Below.refl _ _).alloc (Nat.le_refl _) o)
theorem OI.ext {w : World} {base : Nat} {A : Option Addr} {n c : Nat} {xs : List Int} (h : OI w base A n c xs) (x : Ext w) : OI x.val base A n c xs := h.up x.below
theorem set_take_rep {xs : List Int} {k : Nat} (hk : k < xs.length) :
    (xs.take k ++ List.replicate (xs.length - k) 0).set k xs[k] = xs.take (k + 1) ++ List.replicate (xs.length - (k + 1)) 0 := by
  apply List.ext_getElem?
  intro j
  by_cases hj : j = k
  · subst hj
    rw [List.getElem?_set_self (by simp; omega), List.getElem?_append_left (by simp; omega)]
    simp [hk]
  · rw [List.getElem?_set_ne (by omega)]
    by_cases h1 : j < k
    · rw [List.getElem?_append_left (by simp; omega), List.getElem?_append_left (by simp; omega)]
      rw [List.getElem?_take_of_lt h1, List.getElem?_take_of_lt (by omega)]
    · rw [List.getElem?_append_right (by simp; omega), List.getElem?_append_right (by simp; omega)]
      simp only [List.length_take, List.getElem?_replicate]
      by_cases h2 : j < xs.length
      · rw [if_pos (by omega), if_pos (by omega)]
      · rw [if_neg (by omega), if_neg (by omega)]
def MadeInts (base : Nat) (xs : List Int) (w0 : World) (e : Ending) (w' : World) : Prop :=
  ∃ A c, e = .returned (.slice A xs.length c) ∧ OI w' base A xs.length c xs ∧ ∃ x : Ext w0, w' = x.val
def marks (k : Int) (n : Nat) : List Int := (List.range n).map fun (i : Nat) => k + (i : Int)
theorem marks_len {k : Int} {n : Nat} : (marks k n).length = n := by simp [marks]
def Marked (base : Nat) (A : Option Addr) (n c : Nat) (xs : List Int) (k : Int) (w0 : World) (e : Ending) (w' : World) : Prop :=
  e = .returned (.int .i64 k) ∧ OI w' base A n c xs ∧ Below base w0 w'
theorem marks_step {xs : List Int} {k : Int} {i : Nat} (h : i < xs.length) : (marks k i ++ xs.drop i).set i (k + (i : Int)) = marks k (i + 1) ++ xs.drop (i + 1) := by
  rw [List.drop_eq_getElem_cons h]
  rw [List.set_append_right _ _ (by simp [marks])]
  simp only [marks, List.length_map, List.length_range, Nat.sub_self, List.set_cons_zero, List.range_succ, List.map_append, List.map_cons, List.map_nil, List.append_assoc, List.cons_append, List.nil_append]
end Go.Proofs.YtekpamojojfplaaGreat
namespace Go.Proofs.YtekpamojojfplaaGreat
open Go.RowKit
def vS (k sz off len cap : Nat) : AV := .one (.sl k sz off len cap)
theorem getD_at {xs : List Int} {j : Nat} (h : j < xs.length) : xs.getD (0 + (j : Int).toNat) 0 = xs[j] := by simp [h]
theorem gD {xs : List Int} {j : Nat} (h : j < xs.length) : xs[j]?.getD 0 = xs[j] := by simp [h]
theorem own_ints {t : TypeId} {c : Nat} {l l' : List Int} {m : Nat → Nat} (h : l = l') : some (Blk.own t c (.ints l)) = some ((Blk.own t c (.ints l')).ren m) := by subst h; rfl
theorem all_take {f : Int → Bool} {xs : List Int} {j : Nat} (h : j < xs.length) (ha : (xs.take j).all f = true) (hj : f xs[j] = true) : (xs.take (j + 1)).all f = true := by
  rw [List.take_succ_eq_append_getElem h, List.all_append, ha]; simp [hj]
theorem all_bad {f : Int → Bool} {xs : List Int} {j : Nat} (h : j < xs.length) (hj : f xs[j] = false) : xs.all f = false := by
  rw [List.all_eq_false]; exact ⟨xs[j], List.getElem_mem h, by simp [hj]⟩
theorem d_areNumbers (xs : List Int) (c : Nat) (hl : xs.length ≤ 1099511627776) : Does Tryz.prog 68 [vS 1 1 0 xs.length c] [(1, .ro (.ints xs))] 2 (Ret (vB (xs.all numB)) 2) := by
 refine Does.intro TT Tryz.func68 rfl (by kernel_rfl) Zz Zz fun E hE => ?_
 (repeat' (first | refine stx ?_ | (refine stq ?_ ?_ <;> (intro hc; ((try simp at hc) <;> try contradiction))) | fail))
 refine w_G hE (fun k : Nat => k ≤ xs.length ∧ (xs.take k).all numB = true) (fun k => xs.length - k)
  (fun k => [(0, vS 1 1 0 xs.length c), (5, vS 1 1 0 xs.length c), (6, vI xs.length), (7, vI k)]) (fun _ => [(1, .ro (.ints xs))]) 2 [] 0 ⟨Nat.zero_le _, rfl⟩ ⟨w_1, w_2, rfl⟩ ?_
 rintro k ⟨h1, h2⟩
 (repeat' (first | refine stx ?_ | refine zqc (d_numI _) ?_ | (refine stq ?_ ?_ <;> (intro hc; ((try simp at hc) <;> try contradiction))) | fail))
 ·refine fin_ret rfl w_3 (congrArg vB ?_) rfl
  rw [gD (by assumption)] at hc
  exact (all_bad _ hc).symm
 ·refine ⟨[], k + 1, ⟨by omega, ?_⟩, w_4, ⟨w_1, w_2, rfl⟩⟩
  rw [gD (by assumption)] at hc
  exact all_take _ h2 hc
 ·refine fin_ret rfl w_3 (congrArg vB ?_) rfl
  rw [List.take_of_length_le (by omega)] at h2
  exact h2.symm
def MadeI (xs : List Int) (k : Nat) (v : AV) (Hout : List (Nat × Blk)) (n : Nat) : Prop := ∃ c, xs.length ≤ c ∧ v = vS k 1 0 xs.length c ∧ Hout = [(k, .own 3 c (.ints xs))] ∧ n = k + 1
theorem MadeI.out {xs : List Int} {k : Nat} : ∀ v Hout n1, MadeI xs k v Hout n1 → ∃ b, Hout = [(k, b)] ∧ n1 = k + 1 ∧ b.keys = [] := fun _ _ _ ⟨c, _, _, h2, h3⟩ => ⟨_, h2, h3, by simp [Blk.keys, Elts.keys, Elts.all, ints_keys]⟩
theorem d_toIntS (xs : List Int) (c : Nat) (hl : xs.length ≤ 1099511627776) : Does Tryz.prog 22 [vS 1 1 0 xs.length c] [(1, .ro (.ints xs))] 2 (MadeI xs 2) := by
 refine Does.intro TT Tryz.func22 rfl (by kernel_rfl) Zz Zz fun E hE => ?_
 (repeat' (first | refine stx ?_ | (refine stq ?_ ?_ <;> (intro hc; ((try simp at hc) <;> try contradiction))) | fail))
 refine w_G hE (fun k : Nat => k ≤ xs.length) (fun k => xs.length - k)
  (fun k => [(0, vS 1 1 0 xs.length c), (3, vS 2 1 0 xs.length xs.length), (4, vI k)]) (fun k => [(1, .ro (.ints xs)), (2, .own 3 xs.length (.ints (xs.take k ++ List.replicate (xs.length - k) 0)))]) 3 [] 0 (Nat.zero_le _) ⟨w_1, w_2, rfl⟩ ?_
 intro k h1
 (repeat' (first | refine stx ?_ | (refine stq ?_ ?_ <;> (intro hc; ((try simp at hc) <;> try contradiction))) | fail))
 ·refine ⟨[], k + 1, hc, w_4, ⟨w_1, ⟨rfl, own_ints ?_, trivial⟩, rfl⟩⟩
  rw [getD_at hc]
  simpa using set_take_rep hc
 ·have : k = xs.length := by omega
  subst this
  exact fin rfl trivial [] (vS 2 1 0 xs.length xs.length) [(2, .own 3 xs.length (.ints xs))] 3 ⟨_, Nat.le_refl _, rfl, rfl, rfl⟩ rfl ⟨trivial, ⟨own_ints (by simp), trivial⟩, rfl⟩ rfl
theorem d_eqIntS (xs ys : List Int) (c d : Nat) (hl : xs.length ≤ 1099511627776) (hl' : ys.length ≤ 1099511627776) : Does Tryz.prog 25 [vS 1 1 0 xs.length c, vS 2 1 0 ys.length d] [(1, .ro (.ints xs)), (2, .ro (.ints ys))] 3 (Ret (vB (decide (xs = ys))) 3) := by
 refine Does.intro TT Tryz.func25 rfl (by kernel_rfl) Zz Zz fun E hE => ?_
 (repeat' (first | refine stx ?_ | (refine stq ?_ ?_ <;> (intro hc; ((try simp at hc) <;> try contradiction))) | fail))
 ·refine fin_ret rfl w_3 (congrArg vB ?_) rfl
  symm; apply decide_eq_false; intro e; subst e; exact hc rfl
 ·refine w_G hE (fun k : Nat => k ≤ xs.length ∧ xs.take k = ys.take k) (fun k => xs.length - k)
   (fun k => [(0, vS 1 1 0 xs.length c), (1, vS 2 1 0 ys.length d), (5, vI k)]) (fun _ => [(1, .ro (.ints xs)), (2, .ro (.ints ys))]) 3 [] 0 ⟨Nat.zero_le _, rfl⟩ ⟨w_1, w_2, rfl⟩ ?_
  rintro k ⟨h1, h2⟩
  (repeat' (first | refine stx ?_ | (refine stq ?_ ?_ <;> (intro hc; ((try simp at hc) <;> try contradiction))) | fail))
  ·refine fin_ret rfl w_3 (congrArg vB ?_) rfl
   symm; apply decide_eq_false; intro e; subst e; exact hc rfl
  ·have hk : k < ys.length := by omega
   refine ⟨[], k + 1, ⟨by omega, ?_⟩, w_4, ⟨w_1, w_2, rfl⟩⟩
   rw [gD (by assumption), gD hk] at hc
   rw [List.take_succ_eq_append_getElem (by assumption), List.take_succ_eq_append_getElem hk, h2, hc]
  ·refine fin_ret rfl w_3 (congrArg vB ?_) rfl
   rw [List.take_of_length_le (by omega), List.take_of_length_le (by omega)] at h2
   simp [h2]
attribute [simp] marks_len
theorem marks_at {k : Int} {n j : Nat} (h : j < n) : (marks k n)[j]?.getD 0 = k + (j : Int) := by simp [marks, h]
def Marks (k : Int) (t : TypeId) (c n : Nat) (v : AV) (Hout : List (Nat × Blk)) (n1 : Nat) : Prop := v = vI (k + n) ∧ Hout = [(1, .own t c (.ints (marks k n)))] ∧ n1 = 2
theorem d_markIntS (xs : List Int) (c cap : Nat) (k : Int) (hl : xs.length ≤ 1099511627776) (hk : 0 ≤ k) (hk' : k ≤ 4611686018427387904) : Does Tryz.prog 26 [vS 1 1 0 xs.length c, vI k] [(1, .own 3 cap (.ints xs))] 2 (Marks k 3 cap xs.length) := by
 refine Does.intro TT Tryz.func26 rfl (by kernel_rfl) Zz Zz fun E hE => ?_
 (repeat' (first | refine stx ?_ | (refine stq ?_ ?_ <;> (intro hc; ((try simp at hc) <;> try contradiction))) | fail))
 refine w_G hE (fun i : Nat => i ≤ xs.length) (fun i => xs.length - i)
  (fun i => [(0, vS 1 1 0 xs.length c), (1, vI (k + i)), (5, vI i)]) (fun i => [(1, .own 3 cap (.ints (marks k i ++ xs.drop i)))]) 2 [] 0 (Nat.zero_le _) ⟨w_1, w_2, rfl⟩ ?_
 intro i h1
 (repeat' (first | refine stx ?_ | (refine stq ?_ ?_ <;> (intro hc; ((try simp at hc) <;> try contradiction))) | fail))
 ·refine ⟨[], i + 1, hc, w_4, ⟨⟨rfl, congrArg some (congrArg vI (show k + (i : Int) + 1 = k + ((i + 1 : Nat) : Int) by omega)), rfl, trivial⟩, ⟨own_ints ?_, trivial⟩, rfl⟩⟩
  rw [← marks_step hc]; simp
 ·have : i = xs.length := by omega
  subst this
  exact fin rfl trivial [] (vI (k + xs.length)) [(1, .own 3 cap (.ints (marks k xs.length)))] 2 ⟨rfl, rfl, rfl⟩ rfl ⟨trivial, ⟨own_ints (by simp), trivial⟩, rfl⟩ rfl
theorem d_heldIntS (n : Nat) (c : Nat) (k : Int) (hl : n ≤ 1099511627776) (hk : 0 ≤ k) (hk' : k ≤ 4611686018427387904) : Does Tryz.prog 40 [vS 1 1 0 n c, vI k] [(1, .ro (.ints (marks k n)))] 2 (Ret (vI (k + n)) 2) := by
 refine Does.intro TT Tryz.func40 rfl (by kernel_rfl) Zz Zz fun E hE => ?_
 (repeat' (first | refine stx ?_ | (refine stq ?_ ?_ <;> (intro hc; ((try simp at hc) <;> try contradiction))) | fail))
 refine w_G hE (fun i : Nat => i ≤ n) (fun i => n - i)
  (fun i => [(0, vS 1 1 0 n c), (1, vI (k + i)), (5, vI i)]) (fun i => [(1, .ro (.ints (marks k n)))]) 2 [] 0 (Nat.zero_le _) ⟨w_1, w_2, rfl⟩ ?_
 intro i h1
 (repeat' (first | refine stx ?_ | (refine stq ?_ ?_ <;> (intro hc; ((try simp at hc) <;> try contradiction))) | fail))
 ·exact absurd (marks_at (by assumption)) hc
 ·exact ⟨[], i + 1, by assumption, w_4, ⟨⟨rfl, congrArg some (congrArg vI (show k + (i : Int) + 1 = k + ((i + 1 : Nat) : Int) by omega)), rfl, trivial⟩, ⟨rfl, trivial⟩, rfl⟩⟩
 ·have : i = n := by omega
  subst this
  refine fin_ret rfl w_3 (rfl) rfl
end Go.Proofs.YtekpamojojfplaaGreat
namespace Go.Proofs.YtekpamojojfplaaGreat
open Go.RowKit Go.Sort Go.Lib Go.Shelf
def encR (r : Row) : Value := r.val false
section
variable {α : Type} [Inhabited α] {enc : α → Value} {w : World} {g n : Nat} {os : Array Obj} {cur : Array Value} {e : TypeId} {fr : Nat × Nat}
theorem heap_put (d : Array α) (hb : w.heap[g]? = some (.cells cur e fr)) : (sortWorld enc w g 0 n d os).heap[g]? = some (.cells (putCells enc 0 d cur) e fr) := by
  have hg : g < w.heap.size := (Array.getElem?_eq_some_iff.1 hb).1
  unfold sortWorld
  rw [heap_grow_old _ _ (by simpa using hg)]
  simp [putRow, mapBlock, Sort.ahead, Array.getElem?_modify, hb, onCells]
theorem grown_put (d : Array α) : w.grownBy (sortWorld enc w g 0 n d os) (some g) := by
  unfold sortWorld
  refine ⟨rfl, rfl, rfl, by simp, fun k hk hne => ?_⟩
  rw [heap_grow_old _ _ (by simpa using hk)]
  have : g ≠ k := fun e => hne (by rw [e])
  simp [putRow, mapBlock, Sort.ahead, Array.getElem?_modify, this]
theorem take_put (d : Array α) (h : d.size ≤ cur.size) (m : Nat) (hm : m ≤ d.size) : (putCells enc 0 d cur).toList.take m = (d.toList.take m).map enc := by
  apply List.ext_getElem?
  intro j
  by_cases hj : j < m
  · rw [List.getElem?_take_of_lt hj, Array.getElem?_toList, List.getElem?_map, List.getElem?_take_of_lt hj]
    simp [putCells, show j < d.size by omega, show j < cur.size by omega]
  · rw [List.getElem?_take_eq_none (by omega), List.getElem?_eq_none (by simp; omega)]
theorem holds_blk (d : Array α) (hb : w.heap[g]? = some (.cells cur e (0, 0))) (ht : cur.toList.take d.size = d.toList.map enc) : Holds enc w g 0 d := by
  intro j hj
  refine ⟨?_, by simp [World.frozen?, hb]⟩
  have h1 : (cur.toList.take d.size)[j]? = (d.toList.map enc)[j]? := by rw [ht]
  rw [List.getElem?_take_of_lt hj] at h1
  simp only [World.cell?, hb, Nat.zero_add]
  simp only [Option.isSome_none, Bool.false_eq_true, if_false]
  rw [← Array.getElem?_toList, h1]
  simp [hj]
end
def ReadsR (P : Program) (g : Nat) (f : List Int → List Int → Value) : Prop := ∀ (W : World) (x y : Row), RowAt W false x → RowAt W false y → x.xs.length ≤ 1000000 → y.xs.length ≤ 1000000 →
  Calls P g #[encR x, encR y] W fun e w' => e = .returned (f x.xs y.xs) ∧ ∃ q, w' = W.drewN q
end Go.Proofs.YtekpamojojfplaaGreat
namespace Go.Proofs.YtekpamojojfplaaGreat
open Go.RowKit Go.Sort Go.Lib Go.Shelf
def encV (x : Row × Int) : List Value := [encR x.1, .int .i64 x.2]
theorem vflat_len {α : Type} {f : α → List Value} {m : Nat} (hf : ∀ x, (f x).length = m) : ∀ (l : List α), (l.flatMap f).length = l.length * m
  | [] => by simp
  | x :: l => by rw [List.flatMap_cons, List.length_append, hf, vflat_len hf l, List.length_cons, Nat.succ_mul]; omega
theorem vflat_get {α : Type} {f : α → List Value} {m : Nat} (hf : ∀ x, (f x).length = m) :
    ∀ (l : List α) (i j : Nat) (h : i < l.length), j < m → (l.flatMap f)[i * m + j]? = (f l[i])[j]?
  | [], _, _, h, _ => by simp at h
  | x :: l, 0, j, _, hj => by
    rw [List.flatMap_cons, List.getElem?_append_left (by rw [hf]; omega)]; simp
  | x :: l, i + 1, j, h, hj => by
    rw [List.flatMap_cons, List.getElem?_append_right (by rw [hf, Nat.succ_mul]; omega), hf, show (i + 1) * m + j - m = i * m + j by rw [Nat.succ_mul]; omega]
    exact vflat_get hf l i j (by simpa using h) hj
theorem flatK_list {α : Type} [Inhabited α] {f : α → List Value} (hf : ∀ x, (f x).length = 2) (d : Array α) : (flatK f 2 d).toList = d.toList.flatMap f := by
  apply List.ext_getElem?
  intro t
  by_cases ht : t < d.size * 2
  · have h1 : t / 2 < d.toList.length := by rw [Array.length_toList]; omega
    have e := vflat_get hf d.toList (t / 2) (t % 2) h1 (by omega)
    rw [show t / 2 * 2 + t % 2 = t by omega] at e
    have g := get_flatK f 2 d t ht
    have hs : t < (flatK f 2 d).size := by rw [size_flatK]; exact ht
    rw [getElem!_pos (flatK f 2 d) t hs, getElem!_pos d (t / 2) (by omega)] at g
    have h2 : t % 2 < (f d[t / 2]).length := by rw [hf]; omega
    rw [e, Array.getElem?_toList, Array.getElem?_eq_getElem hs, g]
    rw [getElem!_pos (f d[t / 2]) (t % 2) h2, ← List.getElem?_eq_getElem h2]
    simp
  · rw [List.getElem?_eq_none (by rw [Array.length_toList, size_flatK]; omega), List.getElem?_eq_none (by rw [vflat_len hf, Array.length_toList]; omega)]
theorem flat_vals (l : List (Row × Int)) (ρ : Rho) : cells ρ (Elts.vals true l).all = l.flatMap encV := by
  simp only [Elts.all, cells, List.map_flatMap]
  rfl
theorem keys_vals (l : List (Row × Int)) : (Elts.vals true l).keys = [] := vals_keys
theorem vals_over {E : Env} {ρ : Rho} {t t' : TypeId} {cap : Nat} {l l' : List (Row × Int)} {lt : List Row} {w w' : World} {g : Nat} (h : HInv E ρ (lk [(1, .own t cap (.vals true l)), (2, .tok t' false lt)]) 3 w)
    (hp : ρ 1 = some (g, 0)) (hg : w.grownBy w' (some g)) (hb : w'.ownsRow 0 t 2 (.slice (some ⟨g, 0, none⟩) l'.length cap) l'.length (l'.flatMap encV)) (hs : ∀ r ∈ l', r ∈ l) :
    HInv E ρ (lk [(1, .own t cap (.vals true l')), (2, .tok t' false lt)]) 3 w' := by
  have h1 := h.over (k := 1) (e' := .vals true l') rfl hp hg (by
    simp only [BlkOK, flat_vals]
    simpa [adr, hp, Elts.sz, Elts.len] using hb) (by rw [keys_vals]; simp) (fun x hx => by
      obtain ⟨r, hr, rfl⟩ := List.mem_map.1 hx
      exact h.rows 1 _ rfl _ (List.mem_map.2 ⟨r, hs r hr, rfl⟩)) fun k1 b1 p g' hk ho hp' hf => by
        obtain ⟨x, hx, hl, hq⟩ := hf
        obtain ⟨r, hr, rfl⟩ := List.mem_map.1 hx
        exact h.far k1 1 b1 _ p g' hk rfl ho hp' ⟨_, List.mem_map.2 ⟨r, hs r hr, rfl⟩, hl, hq⟩
  refine cast ?_ h1
  congr 1
  funext k
  by_cases e : k = 1
  · subst e; rfl
  · rw [upd_ne e]
    simp only [lk, nbeq_ne e, cond_false]
theorem vals_sealed {E : Env} {ρ' : Rho} {t t' : TypeId} {cap : Nat} {l' : List (Row × Int)} {lt : List Row} {w : World} (h : HInv E ρ' (lk [(1, .own t cap (.vals true l')), (2, .tok t' false lt)]) 3 w) (hs : ∀ r ∈ l', r.1 ∈ lt) :
    Sealed E (lk [(1, .own t cap (.vals true l')), (2, .tok t' false lt)]) :=
  BackedL.sealed h ⟨.inr ⟨2, t', lt, rfl, hs⟩, trivial, trivial⟩
theorem vals_told {E : Env} {ρ : Rho} {t t' : TypeId} {cap : Nat} {l : List (Row × Int)} {lt : List Row} {w : World} (h : HInv E ρ (lk [(1, .own t cap (.vals false l)), (2, .tok t' false lt)]) 3 w) (hs : ∀ r ∈ l, r.1 ∈ lt) : HInv E ρ (lk [(1, .own t cap (.vals true l)), (2, .tok t' false lt)]) 3 w := by
  have h1 := h.tell (k := 1) (kt := 2) (e' := .vals true l) Zz Zz Zz fun x hx => by
    obtain ⟨r, hr, rfl⟩ := List.mem_map.1 hx
    exact ⟨rfl, hs r hr⟩
  refine cast ?_ h1
  congr 1
  funext k
  by_cases e : k = 1
  · subst e; rfl
  · rw [upd_ne e]
    simp only [lk, nbeq_ne e, cond_false]
def Vx (x : Row × Int) : List Int × Int := (x.1.xs, x.2)
def VB (x : Row × Int) : Prop := x.1.xs.length ≤ 1000000 ∧ -4000000000000000000 ≤ x.2 ∧ x.2 ≤ 4000000000000000000
def ReadsV (P : Program) (g : Nat) (f : List Int × Int → List Int × Int → Int) : Prop := ∀ (W : World) (x y : Row × Int), RowAt W false x.1 → RowAt W false y.1 → VB x → VB y →
  Calls P g #[.agg (encV x).toArray, .agg (encV y).toArray] W fun e w' => e = .returned (.int .i64 (f (Vx x) (Vx y))) ∧ ∃ q os', w' = Sort.grow (W.drewN q) os'
theorem vals_at {ρ : Rho} {t : TypeId} {cap : Nat} {l : List (Row × Int)} {w : World} (h : BlkOK ρ 1 w (.own t cap (.vals true l))) (hl : l ≠ []) :
    ∃ g cur, ρ 1 = some (g, 0) ∧ w.heap[g]? = some (.cells cur t (0, 0)) ∧ l.length ≤ cap ∧ cap ≤ maxLen ∧ cur.size = cap * 2 ∧ cur.toList.take (l.length * 2) = l.flatMap encV := by
  simp only [BlkOK, flat_vals] at h
  rcases h.2 with ⟨_, h0⟩ | ⟨g, cap', cur, hv, _, hb, h1, h2, h3, h4⟩
  · exact absurd (List.eq_nil_of_length_eq_zero h0) hl
  · cases hp : ρ 1 with
    | none => simp [adr, hp] at hv
    | some p =>
      simp [adr, hp] at hv
      obtain ⟨⟨rfl, e2⟩, _, rfl⟩ := hv
      refine ⟨p.1, cur, ?_, hb, h1, h2, h3, ?_⟩
      · rw [show p = (p.1, p.2) from rfl, e2]
      · simpa [Elts.sz, Elts.len] using h4
def SortedV (t : TypeId) (cap : Nat) (t' : TypeId) (l : List (Row × Int)) (lt : List Row) (cf : List Int × Int → List Int × Int → Int) (v : AV) (Hout : List (Nat × Blk)) (n : Nat) : Prop :=
  ∃ l' : List (Row × Int), l'.Perm l ∧ (l'.Pairwise fun x y => ¬ cf (Vx y) (Vx x) < 0) ∧ v = .tup [] ∧ Hout = [(1, .own t cap (.vals true l')), (2, .tok t' false lt)] ∧ n = 3
theorem d_sortVals (g : Nat) (cf : List Int × Int → List Int × Int → Int) (hO : SWO (ltOf cf)) (eg : ∀ args w, (callFunc g args).run Tryz.prog w = .ok (.enter g args) w) (hcmp : ReadsV Tryz.prog g cf)
    (l : List (Row × Int)) (lt : List Row) (t t' : TypeId) (cap : Nat) (hl : l.length ≤ 1000000) (hr : ∀ r ∈ l, VB r) (hlt : ∀ r ∈ l, r.1 ∈ lt) :
    Does Tryz.prog 139 [.one (.sl 1 2 0 l.length cap), .one (.fn g [])] [(1, .own t cap (.vals false l)), (2, .tok t' false lt)] 3 (SortedV t cap t' l lt cf) := by
  refine ⟨?_, fun ρ w hH0 hk => ?_⟩
  · exact ⟨_, Tryz.func139, by kernel_rfl, by kernel_rfl⟩
  have hH := vals_told hH0 hlt
  clear hH0
  by_cases h0 : l = []
  · subst h0
    refine Calls.mono (AnyF.slices_SortFunc_none { Tryz.l6k with } (adr ρ 1 (0 * 2)) cap _ w) fun e w' ⟨he, hw⟩ => ?_
    subst hw
    exact ⟨ρ, .tup [], _, 3, ⟨[], List.Perm.refl _, List.Pairwise.nil, rfl, rfl, rfl⟩, he, hH, (by intro k hk; cases hk), vals_sealed hH (by simp)⟩
  · obtain ⟨b, cur, hp, hb, h1, h2, h3, h4⟩ := vals_at (hH.blk 1 _ rfl) h0
    let α := {r : Row × Int // r ∈ l}
    obtain ⟨r0, hr0⟩ := List.exists_mem_of_ne_nil l h0
    haveI : Inhabited α := ⟨⟨r0, hr0⟩⟩
    let enc : α → List Value := fun r => encV r.1
    have hk2 : ∀ x : α, (enc x).length = 2 := fun _ => rfl
    let d : Array α := l.attach.toArray
    have hds : d.size = l.length := by show l.attach.toArray.size = _; rw [List.size_toArray]; exact List.length_attach
    have hdl : (flatK enc 2 d).toList = l.flatMap encV := by
      rw [flatK_list hk2]
      show l.attach.toArray.toList.flatMap (fun r : α => encV r.1) = _
      rw [show (fun r : α => encV r.1) = fun r => encV (Subtype.val r) from rfl, ← List.flatMap_map Subtype.val encV, List.attach_map_subtype_val]
    have hrow : ∀ x ∈ l, RowAt w false x.1 := fun x hx => hH.rows 1 _ rfl _ (List.mem_map.2 ⟨x, hx, rfl⟩)
    have hfar : ∀ x ∈ l, ∀ p, x.1.a = some p → 0 < x.1.len false → p.1 ≠ b := fun x hx p hp' hl' e => hH.far 1 1 _ _ (b, 0) p.1 Zz Zz Zz hp ⟨_, List.mem_map.2 ⟨x, hx, rfl⟩, hl', p, hp', rfl⟩ e.symm
    have hs := AnyQ.slices_SortFunc (P := Tryz.prog) (ρ := Tryz.l6k_ren) (α := α) Tryz.l6k 2 Tryz.isAgg94 Tryz.sizeOf94 enc hk2 (fun x v hv => by simp only [enc, encV, List.mem_cons, List.not_mem_nil, or_false] at hv; rcases hv with rfl | rfl <;> rfl) (fun x y => cf (Vx x.1) (Vx y.1)) ⟨fun x => hO.irrefl (Vx x.1), fun x y z => hO.trans (Vx x.1) (Vx y.1) (Vx z.1), fun x y z => hO.ntrans (Vx x.1) (Vx y.1) (Vx z.1)⟩ g #[] b 0 cap d w eg
      (fun m os dk hdk x y => by
        exact hcmp _ x.1 y.1 ((hrow _ x.2).grown (grown_put (enc := id) (flatK enc 2 dk)) fun p hp' hl' e => hfar _ x.2 p hp' hl' (by injection e)) ((hrow _ y.2).grown (grown_put (enc := id) (flatK enc 2 dk)) fun p hp' hl' e => hfar _ y.2 p hp' hl' (by injection e)) (hr _ x.2) (hr _ y.2))
      (holds_blk (enc := id) (flatK enc 2 d) hb (by rw [size_flatK, hds, h4, hdl, List.map_id])) (Array.getElem?_eq_some_iff.1 hb).1 (by omega)
    have hargs : ([AV.one (.sl 1 2 0 l.length cap), AV.one (.fn g [])].map (AV.conc ρ)).toArray = #[.slice (some ⟨b, 0, none⟩) d.size cap, .func (.func g) #[] #[]] := by
      rw [hds]; simp [AV.conc, SV.conc, adr, hp]
    rw [hargs]
    refine Calls.mono hs fun e w' ⟨he, d', n, os, hperm, hsort, hw⟩ => ?_
    obtain ⟨p1, p2, p3⟩ := hperm
    have e1 : d'.extract 0 d.size = d' := by rw [← p1, Array.extract_size]
    have e2 : d.extract 0 d.size = d := Array.extract_size
    rw [e1, e2] at p3
    have hl' : (d'.toList.map Subtype.val).length = l.length := by simp [p1, hds]
    have hperm' : (d'.toList.map Subtype.val).Perm l := by
      have := p3.map Subtype.val
      rw [show d.toList = l.attach from rfl, List.attach_map_subtype_val] at this
      exact this
    have hfl : (flatK enc 2 d').toList = (d'.toList.map Subtype.val).flatMap encV := by
      rw [flatK_list hk2, List.flatMap_map]
    have hsz' : (flatK enc 2 d').size = l.length * 2 := by rw [size_flatK, p1, hds]
    have hw' : w' = sortWorld id w b 0 n (flatK enc 2 d') os := hw
    have hown : w'.ownsRow 0 t 2 (.slice (some ⟨b, 0, none⟩) (d'.toList.map Subtype.val).length cap) (d'.toList.map Subtype.val).length ((d'.toList.map Subtype.val).flatMap encV) := by
      refine ⟨by rw [vflat_len (f := encV) (m := 2) (fun _ => rfl)], .inr ⟨b, cap, _, rfl, Nat.zero_le _, by rw [hw']; exact heap_put (flatK enc 2 d') hb, by omega, h2, by simp [putCells, h3], ?_⟩⟩
      rw [hl', take_put (flatK enc 2 d') (by rw [hsz', h3]; omega) (l.length * 2) (by omega), List.take_of_length_le (by rw [Array.length_toList]; omega), List.map_id, hfl]
    have hH2 := vals_over hH hp (w' := w') (by rw [hw']; exact grown_put (enc := id) (flatK enc 2 d')) hown fun r hr => hperm'.mem_iff.1 hr
    refine ⟨ρ, .tup [], _, 3, ⟨_, hperm', ?_, rfl, rfl, rfl⟩, he, hH2, (by intro k hk; cases hk), vals_sealed hH2 fun r hr => hlt r (hperm'.mem_iff.1 hr)⟩
    rw [List.pairwise_map, List.pairwise_iff_getElem]
    intro i j hi hj hij
    have := hsort i j (Nat.zero_le _) hij (by rw [← p1]; simpa using hj)
    simp only [Array.length_toList] at hi hj
    simp only [getElem!_pos d' i hi, getElem!_pos d' j hj, ltOf, decide_eq_false_iff_not] at this
    simpa using this
end Go.Proofs.YtekpamojojfplaaGreat
namespace Go.Proofs.YtekpamojojfplaaGreat
def cmpL : List Int → List Int → Int
  | [], [] => 0
  | [], _ :: _ => -1
  | _ :: _, [] => 1
  | a :: s, b :: t => if a < b then -1 else if b < a then 1 else cmpL s t
theorem cmpL_self : ∀ s, cmpL s s = 0
  | [] => rfl
  | a :: s => by simp [cmpL, cmpL_self s]
theorem cmpL_eq : ∀ {s t : List Int}, cmpL s t = 0 → s = t
  | [], [], _ => rfl
  | [], _ :: _, h => by simp [cmpL] at h
  | _ :: _, [], h => by simp [cmpL] at h
  | a :: s, b :: t, h => by
    rw [cmpL] at h
    split at h
    · omega
    · split at h
      · omega
      · rw [cmpL_eq h, show a = b by omega]
theorem cmpL_neg : ∀ (s t : List Int), cmpL t s = - cmpL s t
  | [], [] => rfl
  | [], _ :: _ => rfl
  | _ :: _, [] => rfl
  | a :: s, b :: t => by
    have := cmpL_neg s t
    simp only [cmpL]
    split <;> split <;> first | omega | (split <;> omega)
theorem cmpL_trans : ∀ {s t u : List Int}, cmpL s t < 0 → cmpL t u < 0 → cmpL s u < 0
  | [], [], _, h, _ => by simp [cmpL] at h
  | [], _ :: _, [], _, h => by simp [cmpL] at h
  | [], _ :: _, _ :: _, _, _ => by simp [cmpL]
  | _ :: _, [], _, h, _ => by simp [cmpL] at h
  | _ :: _, _ :: _, [], _, h => by simp [cmpL] at h
  | a :: s, b :: t, c :: u, h1, h2 => by
    rw [cmpL] at h1 h2 ⊢
    split at h1
    · split at h2
      · rw [if_pos (by omega)]; omega
      · split at h2
        · omega
        · rw [if_pos (by omega)]; omega
    · split at h1
      · omega
      · split at h2
        · rw [if_pos (by omega)]; omega
        · split at h2
          · omega
          · rw [if_neg (by omega), if_neg (by omega)]
            exact cmpL_trans h1 h2
def StrictL (l : List (List Int)) : Prop := l.Pairwise fun x y => cmpL x y < 0
def addL : List (List Int) → List Int → List (List Int)
  | [], v => [v]
  | x :: l, v => if cmpL x v < 0 then x :: addL l v else if cmpL v x < 0 then v :: x :: l else x :: l
def addsL (l : List (List Int)) : List (List Int) := l.foldl addL []
theorem StrictL.filter {l : List (List Int)} (hs : StrictL l) (p : List Int → Bool) : StrictL (l.filter p) := List.Pairwise.filter p hs
end Go.Proofs.YtekpamojojfplaaGreat
namespace Go.Proofs.YtekpamojojfplaaGreat
open Go.RowKit Go.Sort Go.Lib Go.Shelf
theorem RowAt.cellAt {w : World} {r : Row} (h : RowAt w false r) {k : Nat} (hk : k < r.xs.length) : ∃ b o, r.val false = .slice (some ⟨b, o, none⟩) r.xs.length r.cap ∧ w.cell? ⟨b, o + k, none⟩ = some (.int .i64 r.xs[k]) := by
  unfold RowAt at h
  cases hp : r.a with
  | none => rw [hp] at h; simp only [Row.len] at h; omega
  | some p =>
    rw [hp] at h
    refine ⟨p.1, p.2, by simp [Row.val, hp, Row.len], ?_⟩
    exact h.2 k (.int r.xs[k]) (by simp [Row.svs, hk])
theorem val_len (r : Row) : r.val false = .slice (r.a.map fun p => ⟨p.1, p.2, none⟩) r.xs.length r.cap := rfl
set_option maxHeartbeats 400000 in
theorem isNaN_any (n : Int) (w : World) : Calls Tryz.prog 213 #[.int .i64 n] w fun e w' => e = .returned (.bool false) ∧ w = w' := by
  go_enter Tryz.func213, Tryz.ntmps213
  go_wp2
  go_ret
  exact ⟨ret_bool (by simp), rfl⟩
def cmpI (a b : Int) : Int := if a < b then -1 else if b < a then 1 else 0
set_option maxHeartbeats 1000000 in
theorem cmpInt_any (a b : Int) (w : World) : Calls Tryz.prog 175 #[.int .i64 a, .int .i64 b] w fun e w' => e = .returned (.int .i64 (cmpI a b)) ∧ w = w' := by
  go_enter Tryz.func175, Tryz.ntmps175
  go_wp2_with (go_at_call 213; refine (isNaN_any _ _).mono ?_; rintro e w' ⟨rfl, rfl⟩)
  all_goals go_ret
  all_goals exact ⟨ret_int (by unfold cmpI; first | (rw [if_pos ‹_›]; done) | (rw [if_neg ‹_›, if_pos ‹_›]; done) | (rw [if_neg (by omega), if_pos (by omega)]; done) | (rw [if_neg (by omega), if_neg (by omega)])), rfl⟩
theorem cmpI_neg {a b : Int} (h : a < b) : cmpI a b = -1 := by simp [cmpI, h]
theorem cmpI_pos {a b : Int} (h : b < a) : cmpI a b = 1 := by unfold cmpI; rw [if_neg (by omega), if_pos h]
theorem cmpI_eq (a : Int) : cmpI a a = 0 := by simp [cmpI]
theorem cmpL_drop : ∀ {k : Nat} {s t : List Int}, k ≤ s.length → k ≤ t.length → s.take k = t.take k → cmpL s t = cmpL (s.drop k) (t.drop k)
  | 0, _, _, _, _, _ => by simp
  | k + 1, [], _, h, _, _ => by simp at h
  | k + 1, _ :: _, [], _, h, _ => by simp at h
  | k + 1, a :: s, b :: t, h1, h2, h => by
    simp only [List.take_succ_cons, List.cons.injEq] at h
    obtain ⟨rfl, h⟩ := h
    rw [cmpL, if_neg (by omega), if_neg (by omega), List.drop_succ_cons, List.drop_succ_cons]
    exact cmpL_drop (by simpa using h1) (by simpa using h2) h
theorem cmpL_at {k : Nat} {s t : List Int} (h1 : k < s.length) (h2 : k < t.length) (h : s.take k = t.take k) (hne : s[k] ≠ t[k]) : cmpL s t = if s[k] < t[k] then -1 else 1 := by
  rw [cmpL_drop (by omega) (by omega) h, List.drop_eq_getElem_cons h1, List.drop_eq_getElem_cons h2, cmpL]
  split
  · rfl
  · rw [if_pos (by omega)]
theorem cmpL_longer {s t : List Int} (h1 : t.length < s.length) (h : s.take t.length = t) : cmpL s t = 1 := by
  rw [cmpL_drop (k := t.length) (by omega) (Nat.le_refl _) (by rw [h]; simp), List.drop_of_length_le (Nat.le_refl t.length)]
  cases hd : s.drop t.length with
  | nil =>
    have := congrArg List.length hd
    rw [List.length_drop] at this
    simp at this; omega
  | cons a l => rfl
theorem cmpL_end {s t : List Int} (h1 : s.length ≤ t.length) (h : s = t.take s.length) : cmpL s t = if s.length < t.length then -1 else 0 := by
  rw [cmpL_drop (k := s.length) (Nat.le_refl _) h1 (by rw [← h]; simp), List.drop_of_length_le (Nat.le_refl _)]
  split
  · rename_i hlt
    rw [List.drop_eq_getElem_cons hlt]; simp [cmpL]
  · rw [List.drop_of_length_le (by omega)]; rfl
set_option maxHeartbeats 4000000 in
theorem cmpR_any (x y : Row) (w : World) (hx : RowAt w false x) (hy : RowAt w false y) (lx : x.xs.length ≤ 1000000) (ly : y.xs.length ≤ 1000000) :
    Calls Tryz.prog 141 #[encR x, encR y] w fun e w' => e = .returned (.int .i64 (cmpL x.xs y.xs)) ∧ w = w' := by
  have HX : Aside (∀ k (hk : k < x.xs.length), ∃ b o, x.val false = .slice (some ⟨b, o, none⟩) x.xs.length x.cap ∧ w.cell? ⟨b, o + k, none⟩ = some (.int .i64 x.xs[k])) := fun k hk => hx.cellAt hk
  have HY : Aside (∀ k (hk : k < y.xs.length), ∃ b o, y.val false = .slice (some ⟨b, o, none⟩) y.xs.length y.cap ∧ w.cell? ⟨b, o + k, none⟩ = some (.int .i64 y.xs[k])) := fun k hk => hy.cellAt hk
  clear hx hy
  simp only [encR]
  rw [val_len] at HX
  rw [val_len] at HY
  rw [val_len, val_len]
  generalize x.a.map (fun p => (⟨p.1, p.2, none⟩ : Addr)) = A at *
  generalize y.a.map (fun p => (⟨p.1, p.2, none⟩ : Addr)) = B at *
  generalize x.xs = xs at *
  generalize y.xs = ys at *
  generalize x.cap = cx at *
  generalize y.cap = cy at *
  go_enter Tryz.func141, Tryz.ntmps141
  go_wp2
  go_loopw [11] (fun i wr => ∃ k : Nat, k ≤ xs.length ∧ k ≤ ys.length ∧ i = .int .i64 k ∧ Hid (xs.take k = ys.take k) ∧ wr = w) (fun i _ => xs.length - (intOf i).toNat)
  case atStart => exact ⟨0, Nat.zero_le _, Nat.zero_le _, rfl, rfl, rfl⟩
  case round =>
    obtain ⟨k, hk, hk', rfl, he, rfl⟩ := hrel
    by_cases h1 : k < xs.length
    · obtain ⟨b, o, e1, c1⟩ := HX.out k h1
      injection e1 with e1 _ _
      subst e1
      by_cases h2 : k < ys.length
      · obtain ⟨b', o', e2, c2⟩ := HY.out k h2
        injection e2 with e2 _ _
        subst e2
        have K : Aside (xs.take k = ys.take k) := he
        clear he
        have E1 : Aside (cmpL xs ys = if xs[k] < ys[k] then -1 else if ys[k] < xs[k] then 1 else cmpL xs ys) := by
          show _ = _
          by_cases e : xs[k] = ys[k]
          · rw [if_neg (by omega), if_neg (by omega)]
          · have := cmpL_at h1 h2 K.out e
            rw [this]
            split
            · rfl
            · rw [if_pos (by omega)]
        have E2 : Aside (xs[k] = ys[k] → xs.take (k + 1) = ys.take (k + 1)) := by
          show _ → _
          intro e
          rw [List.take_succ_eq_append_getElem h1, List.take_succ_eq_append_getElem h2, K.out, e]
        generalize xs[k] = a at *
        generalize ys[k] = b at *
        rcases Int.lt_trichotomy a b with hab | rfl | hab
        · have hc := cmpI_neg hab
          go_wp2_with (go_at_call 175; refine (cmpInt_any _ _ _).mono ?_; rintro e w' ⟨rfl, rfl⟩; rw [hc])
          go_ret
          refine ⟨ret_int ?_, rfl⟩
          rw [E1.out, if_pos hab]
        · have hc := cmpI_eq a
          go_wp2_with (go_at_call 175; refine (cmpInt_any _ _ _).mono ?_; rintro e w' ⟨rfl, rfl⟩; rw [hc])
          go_roundw
          case rel => exact ⟨k + 1, h1, h2, by go_num, E2.out trivial, by first | rfl | trivial⟩
          case measure => simp [intOf]; omega
        · have hc := cmpI_pos hab
          go_wp2_with (go_at_call 175; refine (cmpInt_any _ _ _).mono ?_; rintro e w' ⟨rfl, rfl⟩; rw [hc])
          go_ret
          refine ⟨ret_int ?_, rfl⟩
          rw [E1.out, if_neg (by omega), if_pos hab]
      · have hk2 : k = ys.length := by omega
        have R : Aside (cmpL xs ys = 1) := by
          refine cmpL_longer (by omega) ?_
          have := he.out
          rw [hk2, List.take_of_length_le (Nat.le_refl ys.length)] at this
          exact this
        clear he
        subst hk2
        go_wp2
        go_ret
        exact ⟨ret_int R.out.symm, rfl⟩
    · have hk2 : k = xs.length := by omega
      have R : Aside (cmpL xs ys = if xs.length < ys.length then -1 else 0) := by
        refine cmpL_end (by omega) ?_
        have := he.out
        rw [hk2, List.take_of_length_le (Nat.le_refl xs.length)] at this
        exact this
      clear he
      by_cases hlt : xs.length < ys.length
      · go_wp2
        go_ret
        refine ⟨ret_int ?_, rfl⟩
        rw [R.out, if_pos hlt]
      · go_wp2
        go_ret
        refine ⟨ret_int ?_, rfl⟩
        rw [R.out, if_neg hlt]
end Go.Proofs.YtekpamojojfplaaGreat
namespace Go.Proofs.YtekpamojojfplaaGreat
def difL (a b : List Int) : List Int := (List.range a.length).map fun k => a.getD k 0 - b.getD k 0
def zeroL (a : List Int) : Prop := ∀ k, k < a.length → a.getD k 0 = 0
instance {a : List Int} : Decidable (zeroL a) := by unfold zeroL; infer_instance
theorem difL_len {a b : List Int} : (difL a b).length = a.length := by simp [difL]
theorem difL_at {a b : List Int} {k : Nat} (h : k < a.length) : (difL a b).getD k 0 = a.getD k 0 - b.getD k 0 := by simp [difL, h]
def cmpV (x y : List Int × Int) : Int := if x.2 ≠ y.2 then x.2 - y.2 else cmpL x.1 y.1
theorem cmpV_self (x : List Int × Int) : cmpV x x = 0 := by simp [cmpV, cmpL_self]
theorem cmpV_eq {x y : List Int × Int} (h : cmpV x y = 0) : x = y := by
  unfold cmpV at h
  split at h
  · omega
  · rename_i e
    exact Prod.ext (cmpL_eq h) (by omega)
theorem cmpV_neg (x y : List Int × Int) : cmpV y x < 0 ↔ 0 < cmpV x y := by
  unfold cmpV
  have := cmpL_neg x.1 y.1
  by_cases e : x.2 = y.2
  · rw [if_neg (by omega), if_neg (by omega)]; omega
  · rw [if_pos (Ne.symm e), if_pos e]; omega
theorem cmpV_trans {x y z : List Int × Int} (h1 : cmpV x y < 0) (h2 : cmpV y z < 0) : cmpV x z < 0 := by
  unfold cmpV at *
  split at h1
  · split at h2
    · rw [if_pos (by omega)]; omega
    · rw [if_pos (by omega)]; omega
  · split at h2
    · rw [if_pos (by omega)]; omega
    · rw [if_neg (by omega)]
      exact cmpL_trans h1 h2
def StrictV (l : List (List Int × Int)) : Prop := l.Pairwise fun x y => cmpV x y < 0
theorem strictV_ext : ∀ {l m : List (List Int × Int)}, StrictV l → StrictV m → (∀ x, x ∈ l ↔ x ∈ m) → l = m
  | [], [], _, _, _ => rfl
  | [], y :: m, _, _, h => by have := (h y).2 (by simp); cases this
  | x :: l, [], _, _, h => by have := (h x).1 (by simp); cases this
  | x :: l, y :: m, h1, h2, h => by
    have a1 := List.pairwise_cons.1 h1
    have a2 := List.pairwise_cons.1 h2
    have e : x = y := by
      rcases List.mem_cons.1 ((h x).1 (by simp)) with e | e
      · exact e
      · rcases List.mem_cons.1 ((h y).2 (by simp)) with f | f
        · exact f.symm
        · have g1 := a2.1 x e
          have g2 := a1.1 y f
          have := (cmpV_neg x y).1 g1
          omega
    subst e
    rw [strictV_ext a1.2 a2.2 fun z => ?_]
    constructor
    · intro hz
      rcases List.mem_cons.1 ((h z).1 (List.mem_cons_of_mem _ hz)) with e | e
      · subst e
        have := a1.1 z hz
        rw [cmpV_self] at this
        omega
      · exact e
    · intro hz
      rcases List.mem_cons.1 ((h z).2 (List.mem_cons_of_mem _ hz)) with e | e
      · subst e
        have := a2.1 z hz
        rw [cmpV_self] at this
        omega
      · exact e
def putV : List (List Int × Int) → List Int × Int → List (List Int × Int)
  | [], v => [v]
  | x :: l, v => if (x :: l).all (fun y => decide (0 < cmpV y v)) then v :: x :: l else x :: putV l v
theorem mem_putV : ∀ {l : List (List Int × Int)} {v x : List Int × Int}, x ∈ putV l v ↔ x = v ∨ x ∈ l
  | [], v, x => by simp [putV]
  | y :: l, v, x => by
    rw [putV]
    split
    · simp
    · rw [List.mem_cons, mem_putV, List.mem_cons]
      constructor
      · rintro (h | h | h)
        · exact .inr (.inl h)
        · exact .inl h
        · exact .inr (.inr h)
      · rintro (h | h | h)
        · exact .inr (.inl h)
        · exact .inl h
        · exact .inr (.inr h)
def redV (K : List Int → Bool) (F : List (List Int × Int)) (x : List Int) : Bool := F.any fun y => !decide (zeroL (difL x y.1)) && K (difL x y.1)
def greedV (K : List Int → Bool) (l : List (List Int × Int)) : List (List Int × Int) := l.foldl (fun out x => if out.any fun y => K (difL x.1 y.1) then out else out ++ [x]) []
structure ConeV (b : Nat) (K : List Int → Bool) (ht : List Int → Int) : Prop where
  add : ∀ u v w : List Int, u.length = b → v.length = b → w.length = b → (∀ k, k < b → w.getD k 0 = u.getD k 0 + v.getD k 0) → K u = true → K v = true → K w = true
  hadd : ∀ u v w : List Int, u.length = b → v.length = b → w.length = b → (∀ k, k < b → w.getD k 0 = u.getD k 0 + v.getD k 0) → ht w = ht u + ht v
  pos : ∀ u : List Int, u.length = b → K u = true → ¬ zeroL u → 0 < ht u
structure InV (b : Nat) (K : List Int → Bool) (ht : List Int → Int) (F : List (List Int × Int)) : Prop where
  len : ∀ y ∈ F, y.1.length = b
  hgt : ∀ y ∈ F, y.2 = ht y.1
  pos : ∀ y ∈ F, 0 < ht y.1
theorem redV_iff {K : List Int → Bool} {F : List (List Int × Int)} {x : List Int} : redV K F x = true ↔ ∃ y ∈ F, ¬ zeroL (difL x y.1) ∧ K (difL x y.1) = true := by
  simp only [redV, List.any_eq_true, Bool.and_eq_true, Bool.not_eq_true', decide_eq_false_iff_not]
theorem ConeV.low {b : Nat} {K : List Int → Bool} {ht : List Int → Int} (hC : ConeV b K ht) {F : List (List Int × Int)} (hF : InV b K ht F) : ∀ (N : Nat) (x : List Int) (y : List Int × Int), x.length = b → y ∈ F → ht y.1 ≤ (N : Int) → K (difL x y.1) = true → ∃ z ∈ F, redV K F z.1 = false ∧ K (difL x z.1) = true ∧ ht z.1 ≤ ht y.1 := fun N => by
  induction N with
  | zero =>
    intro x y hx hy hN hk
    have := hF.pos y hy
    omega
  | succ N ih =>
    intro x y hx hy hN hk
    cases hr : redV K F y.1
    · exact ⟨y, hy, hr, hk, Int.le_refl _⟩
    · obtain ⟨z, hz, h1, h2⟩ := redV_iff.1 hr
      have ly := hF.len y hy
      have lz := hF.len z hz
      have e1 := hC.hadd z.1 (difL y.1 z.1) y.1 lz (by rw [difL_len]; exact ly) ly fun k hk => by rw [difL_at (by omega)]; omega
      have e2 := hC.pos (difL y.1 z.1) (by rw [difL_len]; exact ly) h2 h1
      have e3 := hC.add (difL x y.1) (difL y.1 z.1) (difL x z.1) (by rw [difL_len]; exact hx) (by rw [difL_len]; exact ly) (by rw [difL_len]; exact hx) (fun k hk => by rw [difL_at (by omega), difL_at (by omega), difL_at (by omega)]; omega) hk h2
      obtain ⟨u, hu, h3, h4, h5⟩ := ih x z hx hz (by omega) e3
      exact ⟨u, hu, h3, h4, by omega⟩
end Go.Proofs.YtekpamojojfplaaGreat
