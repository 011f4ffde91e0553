/-
  TEXTS OF THE PROOF, put together: Am.
-/
import Derived.WalkKit
import Derived.WalkSpells
import Derived.WalkLawsBesides
import Derived.Handy
import Derived.OrdersHeld
import Derived.Deep.LoopGhost
import Derived.Great.BuildSlice
set_option linter.unusedVariables false
set_option linter.unusedSimpArgs false
namespace Go.Proofs.YtekpamojojfplaaGreat
theorem Zz.{u} {α : Sort u} {a : α} : a = a := rfl
open Go.RowKit
inductive SV where
  | int (n : Int)
  | bool (b : Bool)
  | sl (k sz off len cap : Nat)
  | ptr (k sz i f : Nat)
  | fn (f : FuncId) (caps : List (Nat × Nat))
  | u8 (n : Int)
  | hd (a : Option (Nat × Nat)) (len cap : Nat)
inductive TV where
  | one (s : SV)
  | agg (l : List SV)
inductive AV where
  | one (s : SV)
  | agg (l : List SV)
  | tup (l : List TV)
abbrev Rho := Nat → Option (Nat × Nat)
def adr (ρ : Rho) (k n : Nat) : Option Addr := (ρ k).map fun p => ⟨p.1, p.2 + n, none⟩
def SV.conc (ρ : Rho) : SV → Value
  | .int n => .int .i64 n
  | .bool b => .bool b
  | .sl k sz off len cap => .slice (adr ρ k (off * sz)) len cap
  | .ptr k sz i f => .pointer (adr ρ k (i * sz + f))
  | .fn f caps => .func (.func f) #[] (caps.map fun k => Value.pointer (adr ρ k.1 0)).toArray
  | .u8 n => .int .u8 n
  | .hd a len cap => .slice (a.map fun p => ⟨p.1, p.2, none⟩) len cap
def cells (ρ : Rho) (l : List SV) : List Value := l.map (SV.conc ρ)
def TV.conc (ρ : Rho) : TV → Value
  | .one s => s.conc ρ
  | .agg l => .agg (cells ρ l).toArray
def AV.conc (ρ : Rho) : AV → Value
  | .one s => s.conc ρ
  | .agg l => .agg (cells ρ l).toArray
  | .tup l => .tuple (l.map (TV.conc ρ)).toArray
def SV.keys : SV → List Nat
  | .int _ => []
  | .bool _ => []
  | .sl k _ _ _ _ => [k]
  | .ptr k _ _ _ => [k]
  | .fn _ caps => caps.map (·.1)
  | .u8 _ => []
  | .hd _ _ _ => []
def keysOf (l : List SV) : List Nat := l.flatMap SV.keys
def TV.keys : TV → List Nat
  | .one s => s.keys
  | .agg l => keysOf l
def AV.keys : AV → List Nat
  | .one s => s.keys
  | .agg l => keysOf l
  | .tup l => l.flatMap TV.keys
def SV.ren (m : Nat → Nat) : SV → SV
  | .int n => .int n
  | .bool b => .bool b
  | .sl k sz off len cap => .sl (m k) sz off len cap
  | .ptr k sz i f => .ptr (m k) sz i f
  | .fn f caps => .fn f (caps.map fun p => (m p.1, p.2))
  | .u8 n => .u8 n
  | .hd a len cap => .hd a len cap
def TV.ren (m : Nat → Nat) : TV → TV
  | .one s => .one (s.ren m)
  | .agg l => .agg (l.map (SV.ren m))
def AV.ren (m : Nat → Nat) : AV → AV
  | .one s => .one (s.ren m)
  | .agg l => .agg (l.map (SV.ren m))
  | .tup l => .tup (l.map (TV.ren m))
theorem adr_congr {ρ ρ' : Rho} {k n : Nat} (h : ρ k = ρ' k) : adr ρ k n = adr ρ' k n := by simp [adr, h]
theorem SV.conc_congr {ρ ρ' : Rho} : ∀ {v : SV}, (∀ k ∈ v.keys, ρ k = ρ' k) → v.conc ρ = v.conc ρ'
  | .int _, _ => rfl
  | .bool _, _ => rfl
  | .u8 _, _ => rfl
  | .hd _ _ _, _ => rfl
  | .sl k _ _ _ _, h => by simp only [SV.conc, adr_congr (h k (by simp [SV.keys]))]
  | .ptr k _ _ _, h => by simp only [SV.conc, adr_congr (h k (by simp [SV.keys]))]
  | .fn _ caps, h => by
    simp only [SV.conc]
    rw [List.map_congr_left (g := fun k => Value.pointer (adr ρ' k.1 0)) fun k hk => by rw [adr_congr (h k.1 (List.mem_map.2 ⟨k, hk, rfl⟩))]]
theorem cells_congr {ρ ρ' : Rho} {l : List SV} (h : ∀ k ∈ keysOf l, ρ k = ρ' k) : cells ρ l = cells ρ' l :=
  List.map_congr_left fun v hv => SV.conc_congr fun k hk => h k (List.mem_flatMap.2 ⟨v, hv, hk⟩)
theorem TV.conc_congr {ρ ρ' : Rho} : ∀ {v : TV}, (∀ k ∈ v.keys, ρ k = ρ' k) → v.conc ρ = v.conc ρ'
  | .one _, h => SV.conc_congr h
  | .agg _, h => by simp only [TV.conc, cells_congr h]
theorem AV.conc_congr {ρ ρ' : Rho} : ∀ {v : AV}, (∀ k ∈ v.keys, ρ k = ρ' k) → v.conc ρ = v.conc ρ'
  | .one _, h => SV.conc_congr h
  | .agg _, h => by simp only [AV.conc, cells_congr h]
  | .tup l, h => by
    simp only [AV.conc]
    rw [List.map_congr_left fun v hv => TV.conc_congr fun k hk => h k (List.mem_flatMap.2 ⟨v, hv, hk⟩)]
theorem SV.conc_ren {ρ : Rho} {m : Nat → Nat} : ∀ {v : SV}, (v.ren m).conc ρ = v.conc (fun k => ρ (m k))
  | .int _ => rfl
  | .bool _ => rfl
  | .sl .. => rfl
  | .ptr .. => rfl
  | .fn _ caps => by simp only [SV.ren, SV.conc, List.map_map]; rfl
  | .u8 _ => rfl
  | .hd _ _ _ => rfl
theorem cells_ren {ρ : Rho} {m : Nat → Nat} {l : List SV} : cells ρ (l.map (SV.ren m)) = cells (fun k => ρ (m k)) l := by
  simp only [cells, List.map_map]
  exact List.map_congr_left fun v _ => SV.conc_ren
theorem TV.conc_ren {ρ : Rho} {m : Nat → Nat} : ∀ {v : TV}, (v.ren m).conc ρ = v.conc (fun k => ρ (m k))
  | .one _ => SV.conc_ren
  | .agg _ => by simp only [TV.ren, TV.conc, cells_ren]
theorem AV.conc_ren {ρ : Rho} {m : Nat → Nat} : ∀ {v : AV}, (v.ren m).conc ρ = v.conc (fun k => ρ (m k))
  | .one _ => SV.conc_ren
  | .agg _ => by simp only [AV.ren, AV.conc, cells_ren]
  | .tup l => by
    simp only [AV.ren, AV.conc, List.map_map]
    rw [List.map_congr_left (f := TV.conc ρ ∘ TV.ren m) fun v _ => TV.conc_ren]
theorem SV.keys_ren {m : Nat → Nat} : ∀ {v : SV}, (v.ren m).keys = v.keys.map m
  | .int _ => rfl
  | .bool _ => rfl
  | .sl .. => rfl
  | .ptr .. => rfl
  | .fn .. => by simp [SV.ren, SV.keys]
  | .u8 _ => rfl
  | .hd _ _ _ => rfl
theorem keysOf_ren {m : Nat → Nat} {l : List SV} : keysOf (l.map (SV.ren m)) = (keysOf l).map m := by
  simp only [keysOf, List.flatMap_map, List.map_flatMap, SV.keys_ren]
theorem TV.keys_ren {m : Nat → Nat} : ∀ {v : TV}, (v.ren m).keys = v.keys.map m
  | .one _ => SV.keys_ren
  | .agg _ => keysOf_ren
theorem AV.keys_ren {m : Nat → Nat} : ∀ {v : AV}, (v.ren m).keys = v.keys.map m
  | .one _ => SV.keys_ren
  | .agg _ => keysOf_ren
  | .tup l => by simp only [AV.keys, AV.ren, List.flatMap_map, List.map_flatMap, TV.keys_ren]
structure Row where
  a : Option (Nat × Nat)
  cap : Nat
  xs : List Int
  ps : List (Int × Int) := []
instance : Inhabited Row := ⟨⟨none, 0, [], []⟩⟩
def rowD : Row := ⟨none, 0, [], []⟩
def Row.len (q : Bool) (r : Row) : Nat := match q with
  | false => r.xs.length
  | true => r.ps.length
def Row.hd (q : Bool) (r : Row) : SV := match q with
  | false => .hd r.a r.xs.length r.cap
  | true => .hd r.a r.ps.length r.cap
theorem Row.hd_eq (q : Bool) (r : Row) : r.hd q = .hd r.a (r.len q) r.cap := by cases q <;> rfl
inductive Elts where
  | lit (l : List SV)
  | ints (l : List Int)
  | i2 (l : List (Int × Int))
  | i3 (l : List (Int × Int × Int))
  | bytes (l : List Int)
  | rows (q f : Bool) (l : List Row)
  | vals (f : Bool) (l : List (Row × Int))
  | mats (f : Bool) (l : List (Int × Int × Row))
def Elts.sz : Elts → Nat
  | .lit l => l.length
  | .ints _ => 1
  | .i2 _ => 2
  | .i3 _ => 3
  | .bytes _ => 1
  | .rows _ _ _ => 1
  | .vals _ _ => 2
  | .mats _ _ => 3
def Elts.len : Elts → Nat
  | .lit _ => 1
  | .ints l => l.length
  | .i2 l => l.length
  | .i3 l => l.length
  | .bytes l => l.length
  | .rows _ _ l => l.length
  | .vals _ l => l.length
  | .mats _ l => l.length
def sv2 (p : Int × Int) : List SV := [.int p.1, .int p.2]
def sv3 (p : Int × Int × Int) : List SV := [.int p.1, .int p.2.1, .int p.2.2]
def svR (q : Bool) (r : Row) : List SV := [r.hd q]
def svV (p : Row × Int) : List SV := [p.1.hd false, .int p.2]
def svM (p : Int × Int × Row) : List SV := [.int p.1, .int p.2.1, p.2.2.hd false]
def Elts.all : Elts → List SV
  | .lit l => l
  | .ints l => l.map .int
  | .i2 l => l.flatMap sv2
  | .i3 l => l.flatMap sv3
  | .bytes l => l.map .u8
  | .rows q _ l => l.flatMap (svR q)
  | .vals _ l => l.flatMap svV
  | .mats _ l => l.flatMap svM
def Elts.get : Elts → Nat → List SV
  | .lit l, _ => l
  | .ints l, i => [.int (l.getD i 0)]
  | .i2 l, i => sv2 (l.getD i (0, 0))
  | .i3 l, i => sv3 (l.getD i (0, 0, 0))
  | .bytes l, i => [.u8 (l.getD i 0)]
  | .rows q _ l, i => svR q (l.getD i rowD)
  | .vals _ l, i => svV (l.getD i (rowD, 0))
  | .mats _ l, i => svM (l.getD i (0, 0, rowD))
def splice (l : List SV) (f : Nat) (vs : List SV) : List SV := l.take f ++ vs ++ l.drop (f + vs.length)
def Elts.set : Elts → Nat → Nat → List SV → Option Elts
  | .lit l, 0, f, vs => if f + vs.length ≤ l.length then some (.lit (splice l f vs)) else none
  | .ints l, i, 0, [.int n] => some (.ints (l.set i n))
  | .i2 l, i, 0, [.int n, .int m] => some (.i2 (l.set i (n, m)))
  | .i2 l, i, 0, [.int n] => some (.i2 (l.set i (n, (l.getD i (0, 0)).2)))
  | .i2 l, i, 1, [.int n] => some (.i2 (l.set i ((l.getD i (0, 0)).1, n)))
  | .i3 l, i, 0, [.int n, .int m, .int k] => some (.i3 (l.set i (n, m, k)))
  | .i3 l, i, 0, [.int n] => some (.i3 (l.set i (n, (l.getD i (0, 0, 0)).2.1, (l.getD i (0, 0, 0)).2.2)))
  | .i3 l, i, 1, [.int n] => some (.i3 (l.set i ((l.getD i (0, 0, 0)).1, n, (l.getD i (0, 0, 0)).2.2)))
  | .i3 l, i, 2, [.int n] => some (.i3 (l.set i ((l.getD i (0, 0, 0)).1, (l.getD i (0, 0, 0)).2.1, n)))
  | .mats f l, i, 0, [.int n] => some (.mats f (l.set i (n, (l.getD i (0, 0, rowD)).2.1, (l.getD i (0, 0, rowD)).2.2)))
  | .mats f l, i, 1, [.int n] => some (.mats f (l.set i ((l.getD i (0, 0, rowD)).1, n, (l.getD i (0, 0, rowD)).2.2)))
  | _, _, _, _ => none
def Elts.ren (m : Nat → Nat) : Elts → Elts
  | .lit l => .lit (l.map (SV.ren m))
  | .ints l => .ints l
  | .i2 l => .i2 l
  | .i3 l => .i3 l
  | .bytes l => .bytes l
  | .rows q f l => .rows q f l
  | .vals f l => .vals f l
  | .mats f l => .mats f l
theorem flat_len {α : Type} {f : α → List SV} {m : Nat} (hf : ∀ x, (f x).length = m) : ∀ (l : List α), (l.flatMap f).length = l.length * m
  | [] => by simp
  | x :: l => by rw [List.flatMap_cons, List.length_append, hf, flat_len hf l, List.length_cons, Nat.succ_mul]; omega
theorem Elts.all_len : ∀ (e : Elts), e.all.length = e.len * e.sz
  | .lit l => by simp [Elts.all, Elts.len, Elts.sz]
  | .ints l => by simp [Elts.all, Elts.len, Elts.sz]
  | .i2 l => flat_len (f := sv2) (m := 2) (fun _ => rfl) l
  | .i3 l => flat_len (f := sv3) (m := 3) (fun _ => rfl) l
  | .bytes l => by simp [Elts.all, Elts.len, Elts.sz]
  | .rows q _ l => flat_len (f := svR q) (m := 1) (fun _ => rfl) l
  | .vals _ l => flat_len (f := svV) (m := 2) (fun _ => rfl) l
  | .mats _ l => flat_len (f := svM) (m := 3) (fun _ => rfl) l
theorem Elts.get_len : ∀ (e : Elts) (i : Nat), (e.get i).length = e.sz
  | .lit _, _ => rfl
  | .ints _, _ => rfl
  | .i2 _, _ => rfl
  | .i3 _, _ => rfl
  | .bytes _, _ => rfl
  | .rows _ _ _, _ => rfl
  | .vals _ _, _ => rfl
  | .mats _ _, _ => rfl
theorem flat_get {α : Type} {f : α → List SV} {m : Nat} (hf : ∀ x, (f x).length = m) (d : α) :
    ∀ (l : List α) (i j : Nat), i < l.length → j < m → (l.flatMap f)[i * m + j]? = (f (l.getD i d))[j]?
  | [], _, _, h, _ => by simp at h
  | x :: l, 0, j, _, hj => by
    simp only [List.flatMap_cons, Nat.zero_mul, Nat.zero_add, List.getD_cons_zero]
    rw [List.getElem?_append_left (by rw [hf]; exact hj)]
  | x :: l, i + 1, j, h, hj => by
    simp only [List.flatMap_cons, List.getD_cons_succ]
    rw [List.getElem?_append_right (by rw [hf, Nat.succ_mul]; omega), hf, ← flat_get hf d l i j (by simpa using h) hj]
    congr 1
    rw [Nat.succ_mul]; omega
theorem Elts.get_all {e : Elts} {i j : Nat} (hi : i < e.len) (hj : j < e.sz) : e.all[i * e.sz + j]? = (e.get i)[j]? := by
  cases e with
  | lit l => simp only [Elts.len] at hi; have : i = 0 := by omega
             subst this; simp [Elts.all, Elts.get]
  | ints l =>
    simp only [Elts.len] at hi; simp only [Elts.sz] at hj
    have : j = 0 := by omega
    subst this
    simp [Elts.all, Elts.get, Elts.sz, hi]
  | i2 l => exact flat_get (m := 2) (fun _ => rfl) (0, 0) l i j hi hj
  | i3 l => exact flat_get (m := 3) (fun _ => rfl) (0, 0, 0) l i j hi hj
  | bytes l =>
    simp only [Elts.len] at hi; simp only [Elts.sz] at hj
    have : j = 0 := by omega
    subst this
    simp [Elts.all, Elts.get, Elts.sz, hi]
  | rows q f l => exact flat_get (m := 1) (fun _ => rfl) rowD l i j hi hj
  | vals f l => exact flat_get (m := 2) (fun _ => rfl) (rowD, 0) l i j hi hj
  | mats f l => exact flat_get (m := 3) (fun _ => rfl) (0, 0, rowD) l i j hi hj
theorem flat_set {α : Type} {f : α → List SV} {m : Nat} (hf : ∀ x, (f x).length = m) (x : α) :
    ∀ (l : List α) (i : Nat), i < l.length → (l.set i x).flatMap f = splice (l.flatMap f) (i * m) (f x)
  | [], _, h => by simp at h
  | y :: l, 0, _ => by
    simp only [List.set_cons_zero, List.flatMap_cons, splice, Nat.zero_mul, List.take_zero, List.nil_append, Nat.zero_add, hf]
    rw [List.drop_append_of_le_length (by rw [hf]; exact Nat.le_refl _), List.drop_of_length_le (by rw [hf]; exact Nat.le_refl _), List.nil_append]
  | y :: l, i + 1, h => by
    simp only [List.set_cons_succ, List.flatMap_cons]
    rw [flat_set hf x l i (by simpa using h)]
    simp only [splice, hf]
    have e1 : (i + 1) * m = (f y).length + i * m := by rw [hf, Nat.succ_mul]; omega
    rw [e1, List.take_length_add_append, Nat.add_assoc, List.drop_length_add_append]
    simp [List.append_assoc]
theorem splice_get {l : List SV} {a : Nat} {vs : List SV} (h : a + vs.length ≤ l.length) (n : Nat) :
    (splice l a vs)[n]? = if n < a then l[n]? else if n < a + vs.length then vs[n - a]? else l[n]? := by
  simp only [splice, List.append_assoc]
  by_cases h1 : n < a
  · rw [if_pos h1, List.getElem?_append_left (by simp; omega), List.getElem?_take_of_lt h1]
  · rw [if_neg h1, List.getElem?_append_right (by simp; omega)]
    have hm : min a l.length = a := by omega
    simp only [List.length_take, hm]
    by_cases h2 : n < a + vs.length
    · rw [if_pos h2, List.getElem?_append_left (by omega)]
    · rw [if_neg h2, List.getElem?_append_right (by omega), List.getElem?_drop]
      congr 1; omega
theorem splice_len {l : List SV} {a : Nat} {vs : List SV} (h : a + vs.length ≤ l.length) : (splice l a vs).length = l.length := by
  simp [splice]; omega
theorem splice_splice {l : List SV} {a f : Nat} {vs old : List SV} (hl : ∀ j, j < old.length → l[a + j]? = old[j]?) (hf : f + vs.length ≤ old.length) (ha : a + old.length ≤ l.length) :
    splice l a (splice old f vs) = splice l (a + f) vs := by
  have h1 := splice_len hf
  apply List.ext_getElem?
  intro n
  rw [splice_get (by omega) n, splice_get (l := l) (a := a + f) (by omega) n, h1]
  by_cases c1 : n < a
  · rw [if_pos c1, if_pos (show n < a + f by omega)]
  · rw [if_neg c1]
    by_cases c2 : n < a + old.length
    · have h2 := hl (n - a) (by omega)
      rw [show a + (n - a) = n by omega] at h2
      rw [if_pos c2, splice_get hf (n - a)]
      by_cases c3 : n < a + f
      · rw [if_pos (show n - a < f by omega), if_pos c3, h2]
      · rw [if_neg (show ¬ n - a < f by omega), if_neg c3]
        by_cases c4 : n < a + f + vs.length
        · rw [if_pos (show n - a < f + vs.length by omega), if_pos c4, Nat.sub_sub]
        · rw [if_neg (show ¬ n - a < f + vs.length by omega), if_neg c4, h2]
    · rw [if_neg c2, if_neg (show ¬ n < a + f by omega), if_neg (show ¬ n < a + f + vs.length by omega)]
theorem part2 {l : List (Int × Int)} {i f : Nat} {x : Int × Int} {vs : List SV} (hi : i < l.length) (hf : f + vs.length ≤ 2) (hx : sv2 x = splice (sv2 (l.getD i (0, 0))) f vs) :
    (l.set i x).flatMap sv2 = splice (l.flatMap sv2) (i * 2 + f) vs := by
  rw [flat_set (m := 2) (f := sv2) (fun _ => rfl) _ _ _ hi, hx]
  refine splice_splice (fun j hj => flat_get (f := sv2) (m := 2) (fun _ => rfl) (0, 0) l i j hi hj) hf ?_
  rw [flat_len (m := 2) (f := sv2) fun _ => rfl]
  simp only [sv2, List.length_cons, List.length_nil]; omega
theorem part3 {l : List (Int × Int × Int)} {i f : Nat} {x : Int × Int × Int} {vs : List SV} (hi : i < l.length) (hf : f + vs.length ≤ 3) (hx : sv3 x = splice (sv3 (l.getD i (0, 0, 0))) f vs) :
    (l.set i x).flatMap sv3 = splice (l.flatMap sv3) (i * 3 + f) vs := by
  rw [flat_set (m := 3) (f := sv3) (fun _ => rfl) _ _ _ hi, hx]
  refine splice_splice (fun j hj => flat_get (f := sv3) (m := 3) (fun _ => rfl) (0, 0, 0) l i j hi hj) hf ?_
  rw [flat_len (m := 3) (f := sv3) fun _ => rfl]
  simp only [sv3, List.length_cons, List.length_nil]; omega
theorem partG {α : Type} {fn : α → List SV} {m : Nat} (hn : ∀ x, (fn x).length = m) (d : α) {l : List α} {i f : Nat} {x : α} {vs : List SV} (hi : i < l.length) (hf : f + vs.length ≤ m) (hx : fn x = splice (fn (l.getD i d)) f vs) :
    (l.set i x).flatMap fn = splice (l.flatMap fn) (i * m + f) vs := by
  rw [flat_set (m := m) (f := fn) hn _ _ _ hi, hx]
  refine splice_splice (fun j hj => flat_get (f := fn) (m := m) hn d l i j hi (by rw [hn] at hj; exact hj)) (by rw [hn]; exact hf) ?_
  rw [flat_len (m := m) (f := fn) hn, hn]
  have : (i + 1) * m ≤ l.length * m := Nat.mul_le_mul_right _ hi
  rw [Nat.succ_mul] at this; omega
theorem Elts.set_all {e e' : Elts} {i f : Nat} {vs : List SV} (h : e.set i f vs = some e') (hi : i < e.len) :
    e'.sz = e.sz ∧ e'.len = e.len ∧ f + vs.length ≤ e.sz ∧ e'.all = splice e.all (i * e.sz + f) vs := by
  unfold Elts.set at h
  split at h
  · split at h
    · rename_i hle
      cases h
      refine ⟨splice_len hle, rfl, hle, ?_⟩
      simp [Elts.all]
    · cases h
  · cases h
    refine ⟨rfl, by simp [Elts.len], by simp [Elts.sz], ?_⟩
    simp only [Elts.len] at hi
    simp only [Elts.all, Elts.sz, splice, Nat.mul_one, Nat.add_zero, List.length_singleton]
    rw [List.set_eq_take_append_cons_drop, if_pos (by simpa using hi)] 
    simp
  all_goals
    try (cases h; done)
  all_goals
    cases h
    refine ⟨rfl, by simp [Elts.len], by simp [Elts.sz], ?_⟩
    simp only [Elts.len] at hi
    simp only [Elts.all, Elts.sz]
    first
      | exact part2 hi (by simp) rfl
      | exact part3 hi (by simp) rfl
      | exact partG (fn := svM) (m := 3) (fun _ => rfl) (0, 0, rowD) hi (by simp) rfl
inductive Blk where
  | dead
  | ro (e : Elts)
  | own (t : TypeId) (cap : Nat) (e : Elts)
  | al (a : Option (Nat × Nat)) (e : Elts)
  | tok (t : TypeId) (q : Bool) (l : List Row)
def Elts.keys (e : Elts) : List Nat := keysOf e.all
def Blk.keys : Blk → List Nat
  | .dead => []
  | .ro e => e.keys
  | .own _ _ e => e.keys
  | .al _ e => e.keys
  | .tok _ _ _ => []
def Blk.ren (m : Nat → Nat) : Blk → Blk
  | .dead => .dead
  | .ro e => .ro (e.ren m)
  | .own t c e => .own t c (e.ren m)
  | .al a e => .al a (e.ren m)
  | .tok t q l => .tok t q l
def Blk.isOwn : Blk → Bool
  | .own .. => true
  | .tok .. => true
  | _ => false
def Blk.isAl : Blk → Bool
  | .al .. => true
  | _ => false
def Blk.isRo : Blk → Bool
  | .ro .. => true
  | _ => false
def Blk.live : Blk → Bool
  | .dead => false
  | .ro e => !Nat.beq e.len 0
  | .own .. => true
  | .al _ e => !Nat.beq e.len 0
  | .tok .. => true
def Elts.rds : Elts → List (Bool × Row)
  | .rows q true l => l.map fun r => (q, r)
  | .vals true l => l.map fun p => (false, p.1)
  | .mats true l => l.map fun p => (false, p.2.2)
  | _ => []
def Blk.rds : Blk → List (Bool × Row)
  | .ro e => e.rds
  | .own _ _ e => e.rds
  | .al _ e => e.rds
  | _ => []
def Blk.Far (b : Blk) (g : Nat) : Prop := match b with
  | .tok _ _ l => ∃ r ∈ l, ∃ p, r.a = some p ∧ p.1 = g
  | b => ∃ x ∈ b.rds, 0 < x.2.len x.1 ∧ ∃ p, x.2.a = some p ∧ p.1 = g
def noRho : Rho := fun _ => none
def Row.svs (q : Bool) (r : Row) : List SV := match q with
  | false => r.xs.map .int
  | true => r.ps.flatMap sv2
def Row.sz (q : Bool) : Nat := match q with
  | false => 1
  | true => 2
def RowAt (w : World) (q : Bool) (r : Row) : Prop := match r.a with
  | none => r.len q = 0
  | some p => (0 < r.len q → p.1 < w.heap.size) ∧ ∀ (j : Nat) (u : SV), (r.svs q)[j]? = some u → w.cell? ⟨p.1, p.2 + j, none⟩ = some (u.conc noRho)
def Row.val (q : Bool) (r : Row) : Value := .slice (r.a.map fun p => ⟨p.1, p.2, none⟩) (r.len q) r.cap
def RowOwn (w : World) (t : TypeId) (q : Bool) (r : Row) : Prop := w.ownsRow 0 t (Row.sz q) (r.val q) (r.len q) (cells noRho (r.svs q))
def Apart (r s : Row) : Prop := ∀ p p', r.a = some p → s.a = some p' → p.1 ≠ p'.1
theorem Blk.live_ro {e : Elts} (h : (Blk.ro e).live = true) : 0 < e.len := by
  simp only [Blk.live, Bool.not_eq_true'] at h
  have := Nat.ne_of_beq_eq_false h
  omega
theorem Elts.none_at {e : Elts} (h : ¬ (Blk.ro e).live = true) (j : Nat) : e.all[j]? = none := by
  have h0 : e.len = 0 := by
    cases c : Nat.beq e.len 0 with
    | true => exact Nat.eq_of_beq_eq_true c
    | false => exact absurd (by simp [Blk.live, c]) h
  have : e.all = [] := List.eq_nil_of_length_eq_zero (by rw [Elts.all_len, h0, Nat.zero_mul])
  simp [this]
theorem Elts.none_al {a : Option (Nat × Nat)} {e : Elts} (h : ¬ (Blk.al a e).live = true) (j : Nat) : e.all[j]? = none := Elts.none_at h j
def BlkOK (ρ : Rho) (k : Nat) (w : World) : Blk → Prop
  | .dead => True
  | .ro e => match ρ k with
    | none => e.len = 0
    | some p => (0 < e.len → p.1 < w.heap.size) ∧ ∀ (j : Nat) (u : SV), e.all[j]? = some u → w.cell? ⟨p.1, p.2 + j, none⟩ = some (u.conc ρ)
  | .own t cap e => w.ownsRow 0 t e.sz (.slice (adr ρ k 0) e.len cap) e.len (cells ρ e.all)
  | .al a e => ρ k = a ∧ match ρ k with
    | none => e.len = 0
    | some p => (0 < e.len → p.1 < w.heap.size) ∧ ∀ (j : Nat) (u : SV), e.all[j]? = some u → w.cell? ⟨p.1, p.2 + j, none⟩ = some (u.conc ρ)
  | .tok t q l => ρ k = none ∧ (∀ r ∈ l, RowOwn w t q r) ∧ l.Pairwise Apart
theorem nbeq_ne {x k : Nat} (h : x ≠ k) : Nat.beq x k = false := by
  cases e : Nat.beq x k with
  | true => exact absurd (Nat.eq_of_beq_eq_true e) h
  | false => rfl
theorem nbeq_of {x k : Nat} (h : Nat.beq x k = false) : x ≠ k := Nat.ne_of_beq_eq_false h
def upd {α : Type} (f : Nat → Option α) (k : Nat) (v : α) : Nat → Option α := fun x => bif Nat.beq x k then some v else f x
def lk {α : Type} : List (Nat × α) → Nat → Option α
  | [], _ => none
  | (k, v) :: r, x => bif Nat.beq x k then some v else lk r x
theorem upd_same {α : Type} {f : Nat → Option α} {k : Nat} {v : α} : upd f k v k = some v := by simp [upd]
theorem upd_ne {α : Type} {f : Nat → Option α} {k x : Nat} {v : α} (h : x ≠ k) : upd f k v x = f x := by
  have : Nat.beq x k = false := nbeq_ne h
  simp [upd, this]
structure St where
  fr : Nat → Option AV
  H : Nat → Option Blk
  nx : Nat
structure Env where
  base : World
  ρ0 : Rho
  n0 : Nat
  own0 : Nat → Prop
  tok0 : Nat → Prop
def Wr (E : Env) (g : Nat) : Prop := E.base.heap.size ≤ g ∨ (∃ k p, k < E.n0 ∧ E.own0 k ∧ E.ρ0 k = some p ∧ p.1 = g) ∨ E.tok0 g
structure Keeps (E : Env) (w : World) : Prop where
  os : w.os = E.base.os
  tape : w.tape = E.base.tape
  output : w.output = E.base.output
  size : E.base.heap.size ≤ w.heap.size
  block : ∀ b, b < E.base.heap.size → (∀ k p, k < E.n0 → E.own0 k → E.ρ0 k = some p → p.1 ≠ b) → ¬ E.tok0 b → w.heap[b]? = E.base.heap[b]?
structure HInv (E : Env) (ρ : Rho) (H : Nat → Option Blk) (nx : Nat) (w : World) : Prop where
  nil : ρ 0 = none
  blk : ∀ k b, H k = some b → BlkOK ρ k w b
  key : ∀ k b, H k = some b → k < nx ∧ ∀ k' ∈ b.keys, k' < nx
  inj : ∀ k k' b b' p p', H k = some b → H k' = some b' → b.isOwn = true → b'.live = true → k ≠ k' → ρ k = some p → ρ k' = some p' → p.1 ≠ p'.1
  new : ∀ k b p, H k = some b → b.live = true → b.isAl = false → E.n0 ≤ k → ρ k = some p → Wr E p.1
  old : ∀ k b, H k = some b → b.isOwn = true → k < E.n0 → E.own0 k
  keeps : Keeps E w
  ent : ∀ k, k < E.n0 → ρ k = E.ρ0 k
  n0 : E.n0 ≤ nx
  pos : 0 < E.n0
  rows : ∀ k b, H k = some b → ∀ x ∈ b.rds, RowAt w x.1 x.2
  far : ∀ k k' b b' p g, H k = some b → H k' = some b' → b.isOwn = true → ρ k = some p → b'.Far g → p.1 ≠ g
  tt : ∀ k k' t t' q q' l l', H k = some (.tok t q l) → H k' = some (.tok t' q' l') → k ≠ k' → ∀ r ∈ l, ∀ r' ∈ l', Apart r r'
  tw : ∀ k t q l, H k = some (.tok t q l) → ∀ r ∈ l, ∀ p, r.a = some p → Wr E p.1
  tr : ∀ k k' t q l e p, H k = some (.tok t q l) → H k' = some (.ro e) → 0 < e.len → ρ k' = some p → ∀ r ∈ l, ∀ p', r.a = some p' → p.1 ≠ p'.1
structure FInv (N : Nat) (ρ : Rho) (fr : Nat → Option AV) (nx : Nat) (a : Act) : Prop where
  defers : a.defers = []
  size : a.tmps.size = N
  val : ∀ t v, fr t = some v → a.tmps.getD t undef = v.conc ρ
  key : ∀ t v, fr t = some v → ∀ k ∈ v.keys, k < nx
structure Inv (E : Env) (N : Nat) (ρ : Rho) (σ : St) (a : Act) (w : World) : Prop where
  f : FInv N ρ σ.fr σ.nx a
  h : HInv E ρ σ.H σ.nx w
theorem FInv.put {N : Nat} {ρ : Rho} {fr : Nat → Option AV} {nx : Nat} {a : Act} (h : FInv N ρ fr nx a) {d : Nat} (hd : d < N) {v : AV} (hk : ∀ k ∈ v.keys, k < nx) :
    FInv N ρ (upd fr d v) nx (a.put (some d) (v.conc ρ)) := by
  refine ⟨h.defers, by simp [Act.put, h.size], fun t u hu => ?_, fun t u hu k hk' => ?_⟩
  · by_cases e : t = d
    · subst e
      rw [upd_same] at hu
      cases hu
      simp [Act.put, h.size, hd]
    · rw [upd_ne e] at hu
      rw [← h.val t u hu]
      simp [Act.put, Array.getElem?_setIfInBounds_ne (Ne.symm e)]
  · by_cases e : t = d
    · subst e
      rw [upd_same] at hu
      cases hu
      exact hk k hk'
    · rw [upd_ne e] at hu
      exact h.key t u hu k hk'
theorem FInv.skip {N : Nat} {ρ : Rho} {fr : Nat → Option AV} {nx : Nat} {a : Act} (h : FInv N ρ fr nx a) (d : Nat) :
    FInv N ρ (upd fr d (.tup [])) nx (a.put (some d) undef) := by
  refine ⟨h.defers, by simp [Act.put, h.size], fun t u hu => ?_, fun t u hu k hk' => ?_⟩
  · by_cases e : t = d
    · subst e
      rw [upd_same] at hu
      cases hu
      by_cases c : t < N
      · simp [Act.put, h.size, c, AV.conc, undef]
      · simp [Act.put, h.size, c, AV.conc, undef]
    · rw [upd_ne e] at hu
      rw [← h.val t u hu]
      simp [Act.put, Array.getElem?_setIfInBounds_ne (Ne.symm e)]
  · by_cases e : t = d
    · subst e
      rw [upd_same] at hu
      cases hu
      cases hk'
    · rw [upd_ne e] at hu
      exact h.key t u hu k hk'
theorem FInv.mono {N : Nat} {ρ ρ' : Rho} {fr : Nat → Option AV} {nx nx' : Nat} {a : Act} (h : FInv N ρ fr nx a) (hρ : ∀ k, k < nx → ρ' k = ρ k) (hn : nx ≤ nx') : FInv N ρ' fr nx' a :=
  ⟨h.defers, h.size, fun t v hv => by rw [h.val t v hv]; exact AV.conc_congr fun k hk => (hρ k (h.key t v hv k hk)).symm, fun t v hv k hk => Nat.lt_of_lt_of_le (h.key t v hv k hk) hn⟩
theorem BlkOK.congr {ρ ρ' : Rho} {k : Nat} {w : World} {b : Blk} (h : BlkOK ρ k w b) (hk : ρ' k = ρ k) (hks : ∀ k' ∈ b.keys, ρ' k' = ρ k') : BlkOK ρ' k w b := by
  cases b with
  | dead => trivial
  | ro e =>
    simp only [BlkOK, hk] at h ⊢
    split at h
    · exact h
    · refine ⟨h.1, fun j u hu => ?_⟩
      rw [h.2 j u hu, SV.conc_congr fun k' hk' => (hks k' (List.mem_flatMap.2 ⟨u, List.mem_of_getElem? hu, hk'⟩)).symm]
  | own t cap e =>
    simp only [BlkOK] at h ⊢
    rw [cells_congr (ρ := ρ') (ρ' := ρ) hks, adr_congr (ρ := ρ') (ρ' := ρ) hk]
    exact h
  | al a e =>
    simp only [BlkOK, hk] at h ⊢
    refine ⟨h.1, ?_⟩
    have h := h.2
    split at h
    · exact h
    · refine ⟨h.1, fun j u hu => ?_⟩
      rw [h.2 j u hu, SV.conc_congr fun k' hk' => (hks k' (List.mem_flatMap.2 ⟨u, List.mem_of_getElem? hu, hk'⟩)).symm]
  | tok t q l => simp only [BlkOK, hk] at h ⊢; exact h
end Go.Proofs.YtekpamojojfplaaGreat
