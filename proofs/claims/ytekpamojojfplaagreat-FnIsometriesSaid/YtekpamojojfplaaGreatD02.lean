/-
  TEXTS OF THE PROOF, put together: Am2.
-/
import Derived.Test.YtekpamojojfplaaGreatD01
set_option linter.unusedVariables false
set_option linter.unusedSimpArgs false
namespace Go.Proofs.YtekpamojojfplaaGreat
open Go.RowKit
inductive TK where
  | sc
  | sl (e : TypeId)
  | st (fs : List (Nat × TypeId))
  | ar (n : Nat) (e : TypeId)
structure TD where
  kind : TK
  size : Nat
  bytes : Nat
  zero : List SV
  eqs : Bool := false
def TD.zeroV (d : TD) : Value := match d.kind with
  | .st _ => .agg (cells noRho d.zero).toArray
  | .ar _ _ => .agg (cells noRho d.zero).toArray
  | _ => match d.zero with
    | s :: _ => s.conc noRho
    | [] => undef
def TK.agg : TK → Bool
  | .st _ => true
  | .ar _ _ => true
  | _ => false
def kindOf (P : Program) (t : TypeId) : Option TK := match P.underlying t with
  | some (.slice e) => some (.sl e)
  | some (.struct fs) => some (.st (fs.toList.map fun f => (f.offset, f.type)))
  | some (.array n e) => some (.ar n e)
  | some _ => some .sc
  | none => none
structure TOK (P : Program) (t : TypeId) (d : TD) : Prop where
  kind : kindOf P t = some d.kind
  info : (P.info? t).map (fun i => (i.zero, i.size, i.bytes)) = some (some d.zeroV, d.size, d.bytes)
  len : d.zero.length = d.size
  zk : ∀ k ∈ keysOf d.zero, k = 0
  one : d.kind.agg = false → d.size = 1
def tget (tab : List (Nat × TD)) (t : Nat) : Option TD := lk tab t
def TabOK (P : Program) (tab : List (Nat × TD)) : Prop := ∀ t d, tget tab t = some d → TOK P t d
theorem TabOK.nil {P : Program} : TabOK P [] := fun _ _ h => by cases h
theorem TabOK.cons {P : Program} {t : Nat} {d : TD} {r : List (Nat × TD)} (h : TOK P t d) (hr : TabOK P r) : TabOK P ((t, d) :: r) := fun t' d' h' => by
  unfold tget lk at h'
  cases e : Nat.beq t' t with
  | true => rw [e] at h'; have : t' = t := Nat.eq_of_beq_eq_true e
            subst this; cases h'; exact h
  | false => rw [e] at h'; exact hr t' d' h'
section
variable {P : Program} {t : TypeId} {d : TD} {w : World}
theorem TOK.infoE (h : TOK P t d) : ∃ i, P.info? t = some i ∧ i.zero = some d.zeroV ∧ i.size = d.size ∧ i.bytes = d.bytes := by
  have h1 := h.info
  cases hi : P.info? t with
  | none => simp [hi] at h1
  | some i => simp [hi] at h1; exact ⟨i, rfl, h1⟩
theorem TOK.run_size (h : TOK P t d) : (sizeOf t).run P w = .ok d.size w := by
  obtain ⟨i, hi, _, hs, _⟩ := h.infoE
  simp [sizeOf, typeInfo, hi, hs]
theorem TOK.run_zero (h : TOK P t d) : (zeroValue t).run P w = .ok d.zeroV w := by
  obtain ⟨i, hi, hz, _⟩ := h.infoE
  simp [zeroValue, typeInfo, hi, hz]
theorem TOK.und (h : TOK P t d) : ∃ D, P.underlying t = some D := by
  have := h.kind
  unfold kindOf at this
  cases hD : P.underlying t with
  | none => simp [hD] at this
  | some D => exact ⟨D, rfl⟩
theorem TOK.run_isAgg (h : TOK P t d) : (isAgg t).run P w = .ok d.kind.agg w := by
  obtain ⟨D, hD⟩ := h.und
  have h1 := h.kind
  unfold kindOf at h1
  rw [hD] at h1
  cases D <;> simp [isAgg, run_underlying hD] <;> simp at h1 <;> simp [← h1, TK.agg]
theorem TOK.slice {e : TypeId} (h : TOK P t d) (hk : d.kind = .sl e) : P.underlying t = some (.slice e) := by
  obtain ⟨D, hD⟩ := h.und
  have h1 := h.kind
  unfold kindOf at h1
  rw [hD, hk] at h1
  cases D <;> simp at h1
  rw [hD, h1]
theorem TOK.struct {fs : List (Nat × TypeId)} (h : TOK P t d) (hk : d.kind = .st fs) :
    ∃ F : Array Field, P.underlying t = some (.struct F) ∧ F.toList.map (fun f => (f.offset, f.type)) = fs := by
  obtain ⟨D, hD⟩ := h.und
  have h1 := h.kind
  unfold kindOf at h1
  rw [hD, hk] at h1
  cases D <;> simp at h1
  exact ⟨_, hD, by simpa using h1⟩
end
structure HB (ρ : Rho) (H : Nat → Option Blk) (nx : Nat) (w : World) : Prop where
  nil : ρ 0 = none
  pos : 0 < nx
  blk : ∀ k b, H k = some b → BlkOK ρ k w b
  key : ∀ k b, H k = some b → k < nx ∧ ∀ k' ∈ b.keys, k' < nx
def Blk.elts : Blk → Option Elts
  | .dead => none
  | .ro e => some e
  | .own _ _ e => some e
  | .al _ e => some e
  | .tok _ _ _ => none
theorem Addr.add_none {b o n : Nat} : Addr.add ⟨b, o, none⟩ n = ⟨b, o + n, none⟩ := by unfold Addr.add; split <;> simp_all
theorem BlkOK.at_ {ρ : Rho} {k : Nat} {w : World} {b : Blk} {e : Elts} (h : BlkOK ρ k w b) (he : b.elts = some e) (hl : 0 < e.len) :
    ∃ p, ρ k = some p ∧ ∀ (j : Nat) (u : SV), e.all[j]? = some u → w.cell? ⟨p.1, p.2 + j, none⟩ = some (u.conc ρ) := by
  cases b with
  | dead => cases he
  | ro e' =>
    cases he
    simp only [BlkOK] at h
    cases hρ : ρ k with
    | none => rw [hρ] at h; simp only at h; omega
    | some p => rw [hρ] at h; exact ⟨p, rfl, h.2⟩
  | own t cap e' =>
    cases he
    simp only [BlkOK] at h
    cases hρ : ρ k with
    | none => 
      rcases h.2 with ⟨_, h2⟩ | ⟨g, c, cur, hv, _⟩
      · omega
      · simp [adr, hρ] at hv
    | some p =>
      refine ⟨p, rfl, fun j u hu => ?_⟩
      have ho : p.2 = 0 := by
        rcases h.2 with ⟨hv, _⟩ | ⟨g, c, cur, hv, _⟩
        · simp [adr, hρ] at hv
        · simp [adr, hρ] at hv; omega
      have h1 := World.ownsRow.cells (g := p.1) h (by simp [adr, hρ, Value.ownBlock]) j (u.conc ρ) (by simp [cells, hu])
      rw [Addr.add_none] at h1
      rw [ho]; exact h1
  | al a e' =>
    cases he
    simp only [BlkOK] at h
    replace h := h.2
    cases hρ : ρ k with
    | none => rw [hρ] at h; simp only at h; omega
    | some p => rw [hρ] at h; exact ⟨p, rfl, h.2⟩
  | tok t q l => cases he
def constInts : List Value → Option (List SV)
  | [] => some []
  | .int .i64 n :: r => match constInts r with
    | some l => some (.int n :: l)
    | none => none
  | _ :: _ => none
theorem constInts_sound {ρ : Rho} : ∀ {cs : List Value} {l : List SV}, constInts cs = some l → cells ρ l = cs ∧ keysOf l = []
  | [], l, h => by cases h; exact ⟨rfl, rfl⟩
  | c :: r, l, h => by
    unfold constInts at h
    split at h
    · rename_i hh; cases hh
    · rename_i n r' hh
      cases hh
      split at h
      · rename_i l' hl
        cases h
        obtain ⟨h1, h2⟩ := constInts_sound (ρ := ρ) hl
        exact ⟨by simp only [cells, List.map_cons, SV.conc] at h1 ⊢; rw [h1], by simpa [keysOf, SV.keys] using h2⟩
      · cases h
    · cases h
def ev (fr : Nat → Option AV) : Operand → Option AV
  | .tmp t => fr t
  | .const (.int .i64 n) => some (.one (.int n))
  | .const (.bool b) => some (.one (.bool b))
  | .const (.slice none 0 0) => some (.one (.sl 0 1 0 0 0))
  | .const (.pointer none) => some (.one (.ptr 0 1 0 0))
  | .const (.agg cs) => match constInts cs.toList with
    | some l => some (.agg l)
    | none => none
  | .func f => some (.one (.fn f []))
  | _ => none
theorem ev_sound {N : Nat} {ρ : Rho} {fr : Nat → Option AV} {nx : Nat} {a : Act} (hF : FInv N ρ fr nx a) (h0 : ρ 0 = none) (hp : 0 < nx) {x : Operand} {v : AV} (h : ev fr x = some v) :
    a.eval x = v.conc ρ ∧ ∀ k ∈ v.keys, k < nx := by
  unfold ev at h
  split at h
  · exact ⟨hF.val _ _ h, hF.key _ _ h⟩
  · cases h; exact ⟨rfl, by simp [AV.keys, SV.keys]⟩
  · cases h; exact ⟨rfl, by simp [AV.keys, SV.keys]⟩
  · cases h; exact ⟨by simp [Act.eval, AV.conc, SV.conc, adr, h0], by simp [AV.keys, SV.keys, hp]⟩
  · cases h; exact ⟨by simp [Act.eval, AV.conc, SV.conc, adr, h0], by simp [AV.keys, SV.keys, hp]⟩
  · split at h
    · rename_i l hl
      cases h
      obtain ⟨h1, h2⟩ := constInts_sound (ρ := ρ) hl
      exact ⟨by simp [Act.eval, AV.conc, h1], by simp [AV.keys, h2]⟩
    · cases h
  · cases h; exact ⟨rfl, by simp [AV.keys, SV.keys]⟩
  · cases h
def InR (n : Int) : Prop := -9223372036854775808 ≤ n ∧ n ≤ 9223372036854775807
def vI (n : Int) : AV := .one (.int n)
def vB (b : Bool) : AV := .one (.bool b)
def nth {α : Type} : List α → Nat → Option α
  | [], _ => none
  | x :: _, 0 => some x
  | _ :: r, n + 1 => nth r n
theorem nth_eq {α : Type} : ∀ (l : List α) (n : Nat), nth l n = l[n]?
  | [], _ => rfl
  | _ :: _, 0 => rfl
  | _ :: r, n + 1 => by simp [nth, nth_eq r n]
@[irreducible] def bitV (op : BinOp) (a b : Int) : Int := bits op .i64 a b
@[irreducible] def wrapV (n : Int) : Int := IntKind.i64.wrap n
@[irreducible] def shrV (n m : Int) : Int := n.fdiv (2 ^ min m.toNat IntKind.i64.bits)
def intOp : BinOp → Int → Int → Option (Prop × AV)
  | .add, a, b => some (InR (a + b), .one (.int (a + b)))
  | .sub, a, b => some (InR (a - b), .one (.int (a - b)))
  | .mul, a, b => some (InR (a * b), .one (.int (a * b)))
  | .quo, a, b => some (b ≠ 0 ∧ InR (a.tdiv b), .one (.int (a.tdiv b)))
  | .rem, a, b => some (b ≠ 0, .one (.int (a.tmod b)))
  | .eql, a, b => some (True, .one (.bool (decide (a = b))))
  | .neq, a, b => some (True, .one (.bool (decide (a ≠ b))))
  | .lss, a, b => some (True, .one (.bool (decide (a < b))))
  | .leq, a, b => some (True, .one (.bool (decide (a ≤ b))))
  | .gtr, a, b => some (True, .one (.bool (decide (b < a))))
  | .geq, a, b => some (True, .one (.bool (decide (b ≤ a))))
  | .and, a, b => some (True, .one (.int (bitV .and a b)))
  | .xor, a, b => some (True, .one (.int (bitV .xor a b)))
  | _, _, _ => none
theorem wrap_in {n : Int} (h : InR n) : IntKind.i64.wrap n = n := by
  obtain ⟨h1, h2⟩ := h
  rw [IntKind.wrap_i64]; omega
theorem intOp_sound {P : Program} {w : World} {op : BinOp} {a b : Int} {c : Prop} {v : AV} {ρ : Rho} {t : TypeId} {x y : Operand} (h : intOp op a b = some (c, v)) (hc : c) :
    (do eqGuard op t x y (.int .i64 a) (.int .i64 b); binOp op t (.int .i64 a) (.int .i64 b) : Sem Value).run P w = .ok (v.conc ρ) w ∧ v.keys = [] := by
  unfold intOp at h
  split at h <;> cases h
  · simp [go_sem, AV.conc, SV.conc, AV.keys, SV.keys, wrap_in hc]
  · simp [go_sem, AV.conc, SV.conc, AV.keys, SV.keys, wrap_in hc]
  · simp [go_sem, AV.conc, SV.conc, AV.keys, SV.keys, wrap_in hc]
  · simp [go_sem, AV.conc, SV.conc, AV.keys, SV.keys, wrap_in hc.2, hc.1]
  · simp [go_sem, AV.conc, SV.conc, AV.keys, SV.keys, hc]
  · simp [go_sem, AV.conc, SV.conc, AV.keys, SV.keys]; try (rw [Bool.eq_iff_iff]; simp)
  · simp [go_sem, AV.conc, SV.conc, AV.keys, SV.keys]; try (rw [Bool.eq_iff_iff]; simp)
  all_goals simp [go_sem, AV.conc, SV.conc, AV.keys, SV.keys, bitV]
def boolOp : BinOp → Bool → Bool → Option (Prop × AV)
  | .eql, a, b => some (True, .one (.bool (a == b)))
  | .neq, a, b => some (True, .one (.bool (a != b)))
  | _, _, _ => none
theorem boolOp_sound {P : Program} {w : World} {op : BinOp} {a b : Bool} {c : Prop} {v : AV} {ρ : Rho} {t : TypeId} {x y : Operand} (ht : P.underlying t = some .bool) (h : boolOp op a b = some (c, v)) :
    (do eqGuard op t x y (.bool a) (.bool b); binOp op t (.bool a) (.bool b) : Sem Value).run P w = .ok (v.conc ρ) w ∧ v.keys = [] := by
  unfold boolOp at h
  split at h <;> cases h
  · simp [go_sem, AV.conc, SV.conc, AV.keys, SV.keys, ht]
  · simp [go_sem, AV.conc, SV.conc, AV.keys, SV.keys, ht]; cases a <;> cases b <;> rfl
def intsOf : List SV → Option (List Int)
  | [] => some []
  | .int n :: r => match intsOf r with
    | some l => some (n :: l)
    | none => none
  | _ :: _ => none
theorem intsOf_eq {ρ : Rho} : ∀ {l : List SV} {m : List Int}, intsOf l = some m → cells ρ l = m.map (Value.int .i64)
  | [], m, h => by cases h; rfl
  | .int n :: r, m, h => by
    unfold intsOf at h
    cases hr : intsOf r with
    | none => rw [hr] at h; cases h
    | some m' =>
      rw [hr] at h
      cases h
      have := intsOf_eq (ρ := ρ) hr
      simp only [cells, List.map_cons, SV.conc] at this ⊢
      rw [this]
  | .bool _ :: _, _, h => by simp [intsOf] at h
  | .sl .. :: _, _, h => by simp [intsOf] at h
  | .ptr .. :: _, _, h => by simp [intsOf] at h
  | .fn .. :: _, _, h => by simp [intsOf] at h
  | .u8 _ :: _, _, h => by simp [intsOf] at h
  | .hd .. :: _, _, h => by simp [intsOf] at h
def EqOK (P : Program) (t : TypeId) (n : Nat) : Prop := ∀ (xs ys : List Int) (w : World) (x y : Operand), xs.length = n → ys.length = n →
  (do eqGuard .eql t x y (.agg (xs.map (Value.int .i64)).toArray) (.agg (ys.map (Value.int .i64)).toArray); binOp .eql t (.agg (xs.map (Value.int .i64)).toArray) (.agg (ys.map (Value.int .i64)).toArray) : Sem Value).run P w = .ok (.bool (decide (xs = ys))) w ∧
  (do eqGuard .neq t x y (.agg (xs.map (Value.int .i64)).toArray) (.agg (ys.map (Value.int .i64)).toArray); binOp .neq t (.agg (xs.map (Value.int .i64)).toArray) (.agg (ys.map (Value.int .i64)).toArray) : Sem Value).run P w = .ok (.bool (!decide (xs = ys))) w
section pure
variable {P : Program} {tab : List (Nat × TD)} {N : Nat} {ρ : Rho} {fr : Nat → Option AV} {H : Nat → Option Blk} {nx : Nat} {a : Act} {w : World} {o : Oper} {c : Prop} {v : AV}
def PS (P : Program) (o : Oper) (a : Act) (w : World) (ρ : Rho) (nx : Nat) (v : AV) : Prop := (execOp a.eval o).run P w = .ok (.value (v.conc ρ)) w ∧ ∀ k ∈ v.keys, k < nx
def pMove (fr : Nat → Option AV) (x : Operand) : Option (Prop × AV) := match ev fr x with
  | some v => some (True, v)
  | none => none
theorem pMove_sound {x : Operand} (ho : o.op = .move x ∨ o.op = .assign x) (hF : FInv N ρ fr nx a) (hB : HB ρ H nx w) (h : pMove fr x = some (c, v)) : PS P o a w ρ nx v := by
  unfold pMove at h
  split at h
  · rename_i u hu
    cases h
    obtain ⟨h1, h2⟩ := ev_sound hF hB.nil hB.pos hu
    refine ⟨?_, h2⟩
    rcases ho with ho | ho <;> simp [execOp, ho, h1]
  · cases h
def pPick (fr : Nat → Option AV) (q x y : Operand) : Option (Prop × AV) := match ev fr q with
  | some (.one (.bool true)) => pMove fr x
  | some (.one (.bool false)) => pMove fr y
  | _ => none
theorem pPick_sound {q x y : Operand} (ho : o.op = .pick q x y) (hF : FInv N ρ fr nx a) (hB : HB ρ H nx w) (h : pPick fr q x y = some (c, v)) : PS P o a w ρ nx v := by
  unfold pPick at h
  split at h
  · rename_i hq
    unfold pMove at h
    split at h
    · rename_i u hu
      cases h
      obtain ⟨h1, h2⟩ := ev_sound hF hB.nil hB.pos hu
      obtain ⟨h3, _⟩ := ev_sound hF hB.nil hB.pos hq
      refine ⟨?_, h2⟩
      simp [execOp, ho, h1, h3, AV.conc, SV.conc, asBool]
    · cases h
  · rename_i hq
    unfold pMove at h
    split at h
    · rename_i u hu
      cases h
      obtain ⟨h1, h2⟩ := ev_sound hF hB.nil hB.pos hu
      obtain ⟨h3, _⟩ := ev_sound hF hB.nil hB.pos hq
      refine ⟨?_, h2⟩
      simp [execOp, ho, h1, h3, AV.conc, SV.conc, asBool]
    · cases h
  · cases h
def aggOp : BinOp → List Int → List Int → Option (Prop × AV)
  | .eql, xs, ys => some (True, .one (.bool (decide (xs = ys))))
  | .neq, xs, ys => some (True, .one (.bool (!decide (xs = ys))))
  | _, _, _ => none
def pBin (tab : List (Nat × TD)) (fr : Nat → Option AV) (op : BinOp) (t : TypeId) (x y : Operand) : Option (Prop × AV) := match ev fr x, ev fr y with
  | some (.one (.int n)), some (.one (.int m)) => intOp op n m
  | some (.one (.bool n)), some (.one (.bool m)) => match tget tab t with
    | some d => match d.kind, d.zero with
      | .sc, [.bool false] => boolOp op n m
      | _, _ => none
    | none => none
  | some (.agg l), some (.agg l') => match tget tab t with
    | some d => match d.eqs, intsOf l, intsOf l' with
      | true, some xs, some ys => match Nat.beq xs.length d.size && Nat.beq ys.length d.size with
        | true => aggOp op xs ys
        | false => none
      | _, _, _ => none
    | none => none
  | some (.one (.int n)), none => match op, y with
    | .shr, .const (.int .u64 m) => some (0 ≤ m, .one (.int (shrV n m)))
    | _, _ => none
  | some (.one (.u8 n)), none => match op, y with
    | .quo, .const (.int .u8 m) => some (0 < m ∧ 0 ≤ n ∧ n ≤ 255, .one (.u8 (n.tdiv m)))
    | _, _ => none
  | _, _ => none
theorem tdiv_u8 {n m : Int} (hm : 0 < m) (h0 : 0 ≤ n) (h1 : n ≤ 255) : 0 ≤ n.tdiv m ∧ n.tdiv m ≤ 255 := by
  rw [Int.tdiv_eq_ediv_of_nonneg h0]
  have h2 := Int.ediv_nonneg h0 (Int.le_of_lt hm)
  have h3 := Int.ediv_le_self m h0
  omega
theorem wrap_u8 {n : Int} (h0 : 0 ≤ n) (h1 : n ≤ 255) : IntKind.u8.wrap n = n := by
  simp [IntKind.wrap, IntKind.bits, IntKind.signed]; omega
theorem pBin_sound (hbl : ∀ t d, tget tab t = some d → d.kind = .sc → d.zero = [.bool false] → P.underlying t = some .bool) (heq : ∀ t d, tget tab t = some d → d.eqs = true → EqOK P t d.size) {op : BinOp} {t t' : TypeId} {x y : Operand} (ho : o.op = .binOp op t x y t') (hF : FInv N ρ fr nx a) (hB : HB ρ H nx w) (h : pBin tab fr op t x y = some (c, v)) (hc : c) : PS P o a w ρ nx v := by
  unfold pBin at h
  split at h
  · rename_i n m hx hy
    obtain ⟨h1, _⟩ := ev_sound hF hB.nil hB.pos hx
    obtain ⟨h2, _⟩ := ev_sound hF hB.nil hB.pos hy
    obtain ⟨h3, h4⟩ := intOp_sound (P := P) (w := w) (ρ := ρ) (t := t) (x := x) (y := y) h hc
    refine ⟨?_, by simp [h4]⟩
    simp only [AV.conc, SV.conc] at h1 h2
    simp only [execOp, ho, h1, h2]
    rw [Sem.run_bind, h3]
    simp
  · rename_i n m hx hy
    split at h
    · rename_i d hd
      split at h
      · rename_i hk hz
        obtain ⟨h1, _⟩ := ev_sound hF hB.nil hB.pos hx
        obtain ⟨h2, _⟩ := ev_sound hF hB.nil hB.pos hy
        obtain ⟨h3, h4⟩ := boolOp_sound (P := P) (w := w) (ρ := ρ) (x := x) (y := y) (hbl t d hd hk hz) h
        refine ⟨?_, by simp [h4]⟩
        simp only [AV.conc, SV.conc] at h1 h2
        simp only [execOp, ho, h1, h2]
        rw [Sem.run_bind, h3]
        simp
      · cases h
    · cases h
  · rename_i l l' hx hy
    split at h
    · rename_i d hd
      split at h
      · rename_i xs ys he hxs hys
        split at h
        · rename_i hlen
          simp only [Bool.and_eq_true] at hlen
          have e1 := Nat.eq_of_beq_eq_true hlen.1
          have e2 := Nat.eq_of_beq_eq_true hlen.2
          obtain ⟨h1, _⟩ := ev_sound hF hB.nil hB.pos hx
          obtain ⟨h2, _⟩ := ev_sound hF hB.nil hB.pos hy
          have h1' : a.eval x = .agg (xs.map (Value.int .i64)).toArray := by rw [h1]; simp [AV.conc, intsOf_eq hxs]
          have h2' : a.eval y = .agg (ys.map (Value.int .i64)).toArray := by rw [h2]; simp [AV.conc, intsOf_eq hys]
          obtain ⟨q1, q2⟩ := heq t d hd he xs ys w x y e1 e2
          unfold aggOp at h
          split at h <;> cases h
          · refine ⟨?_, by simp [AV.keys, SV.keys]⟩
            simp only [execOp, ho, h1', h2']
            rw [Sem.run_bind, q1]
            simp [AV.conc, SV.conc]
          · refine ⟨?_, by simp [AV.keys, SV.keys]⟩
            simp only [execOp, ho, h1', h2']
            rw [Sem.run_bind, q2]
            simp [AV.conc, SV.conc]
        · cases h
      · cases h
    · cases h
  · rename_i n hx hy
    split at h
    · rename_i m
      cases h
      obtain ⟨h1, _⟩ := ev_sound hF hB.nil hB.pos hx
      have h1' : a.eval x = .int .i64 n := h1
      have h2' : a.eval (.const (.int .u64 m)) = .int .u64 m := rfl
      refine ⟨?_, by simp [AV.keys, SV.keys]⟩
      simp only [execOp, ho, h1', h2']
      simp [eqGuard, binOp, Op.shift, AV.conc, SV.conc, shrV, show ¬ m < 0 by omega]
    · cases h
  · rename_i n hx hy
    split at h
    · rename_i m
      cases h
      obtain ⟨h1, _⟩ := ev_sound hF hB.nil hB.pos hx
      have h1' : a.eval x = .int .u8 n := h1
      have h2' : a.eval (.const (.int .u8 m)) = .int .u8 m := rfl
      obtain ⟨g1, g2⟩ := tdiv_u8 hc.1 hc.2.1 hc.2.2
      have hm : m ≠ 0 := by omega
      refine ⟨?_, by simp [AV.keys, SV.keys]⟩
      simp only [execOp, ho, h1', h2']
      simp [go_sem, AV.conc, SV.conc, wrap_u8 g1 g2, hm]
    · cases h
  · cases h
def pUn (fr : Nat → Option AV) (op : UnOp) (x : Operand) : Option (Prop × AV) := match op, ev fr x with
  | .not, some (.one (.bool b)) => some (True, .one (.bool (!b)))
  | .neg, some (.one (.int n)) => some (InR (-n), .one (.int (-n)))
  | _, _ => none
theorem pUn_sound {op : UnOp} {t : TypeId} {x : Operand} (ho : o.op = .unOp op t x) (hF : FInv N ρ fr nx a) (hB : HB ρ H nx w) (h : pUn fr op x = some (c, v)) (hc : c) : PS P o a w ρ nx v := by
  unfold pUn at h
  split at h
  · rename_i b hx
    cases h
    obtain ⟨h1, _⟩ := ev_sound hF hB.nil hB.pos hx
    simp only [AV.conc, SV.conc] at h1
    exact ⟨by simp only [execOp, ho, h1]; simp [go_sem, AV.conc, SV.conc], by simp [AV.keys, SV.keys]⟩
  · rename_i n hx
    cases h
    obtain ⟨h1, _⟩ := ev_sound hF hB.nil hB.pos hx
    simp only [AV.conc, SV.conc] at h1
    exact ⟨by simp only [execOp, ho, h1]; simp [go_sem, AV.conc, SV.conc, wrap_in hc], by simp [AV.keys, SV.keys]⟩
  · cases h
def pPart (l : List SV) (n : Nat) (d : TD) : Option AV := match d.kind.agg with
  | false => match nth l n with
    | some s => some (.one s)
    | none => none
  | true => match Nat.ble (n + d.size) l.length with
    | true => some (.agg ((l.drop n).take d.size))
    | false => none
theorem keys_sub {l l' : List SV} (h : ∀ s ∈ l', s ∈ l) : ∀ k ∈ keysOf l', k ∈ keysOf l := fun k hk => by
  obtain ⟨s, hs, hk⟩ := List.mem_flatMap.1 hk
  exact List.mem_flatMap.2 ⟨s, h s hs, hk⟩
theorem pPart_keys {l : List SV} {n : Nat} {d : TD} {v : AV} (h : pPart l n d = some v) : ∀ k ∈ v.keys, k ∈ keysOf l := by
  unfold pPart at h
  split at h
  · split at h
    · rename_i s hs
      cases h
      rw [nth_eq] at hs
      have := keys_sub (l := l) (l' := [s]) (by simpa using List.mem_of_getElem? hs)
      simpa [keysOf, AV.keys] using this
    · cases h
  · split at h
    · cases h
      exact keys_sub fun s hs => List.mem_of_mem_drop (List.mem_of_mem_take hs)
    · cases h
theorem pPart_sound {l : List SV} {n : Nat} {ft : TypeId} {d : TD} {v : AV} (h : pPart l n d = some v) (hd : TOK P ft d) :
    (part ft (cells ρ l).toArray n).run P w = .ok (v.conc ρ) w := by
  have hagg := hd.run_isAgg (w := w)
  have hsz := hd.run_size (w := w)
  unfold pPart at h
  split at h
  · rename_i hk
    split at h
    · rename_i s hs
      cases h
      rw [nth_eq] at hs
      rw [hk] at hagg
      simp [part, hagg, cells, hs, AV.conc]
    · cases h
  · rename_i hk
    split at h
    · rename_i hb
      cases h
      have hb := Nat.le_of_ble_eq_true hb
      rw [hk] at hagg
      simp [part, hagg, hsz, cells, AV.conc, List.map_take, List.map_drop]
    · cases h
def pField (tab : List (Nat × TD)) (fr : Nat → Option AV) (t : TypeId) (x : Operand) (f : Nat) : Option (Prop × AV) := match tget tab t, ev fr x with
  | some d, some (.agg l) => match d.kind with
    | .st fs => match nth fs f with
      | some (o, ft) => match tget tab ft with
        | some d' => match pPart l o d' with
          | some v => some (True, v)
          | none => none
        | none => none
      | none => none
    | _ => none
  | _, _ => none
theorem pField_sound (hT : TabOK P tab) {t : TypeId} {x : Operand} {f : Nat} (ho : o.op = .field t x f) (hF : FInv N ρ fr nx a) (hB : HB ρ H nx w) (h : pField tab fr t x f = some (c, v)) : PS P o a w ρ nx v := by
  unfold pField at h
  split at h
  · rename_i d l hd hx
    split at h
    · rename_i fs hk
      split at h
      · rename_i of ft hp
        split at h
        · rename_i d' hd'
          split at h
          · rename_i u hu
            cases h
            obtain ⟨h1, h2⟩ := ev_sound hF hB.nil hB.pos hx
            obtain ⟨F, hF1, hF2⟩ := (hT t d hd).struct hk
            rw [nth_eq, ← hF2, List.getElem?_map] at hp
            cases hf : F.toList[f]? with
            | none => rw [hf] at hp; cases hp
            | some fd =>
              rw [hf] at hp
              cases hp
              refine ⟨?_, fun k hk => h2 k (pPart_keys hu k hk)⟩
              have hf' : F[f]? = some fd := by simpa using hf
              have h1' : a.eval x = .agg (cells ρ l).toArray := h1
              simp only [execOp, ho, h1']
              simp [Instr.field, run_underlying hF1, hf', asAgg, pPart_sound hu (hT _ _ hd')]
          · cases h
        · cases h
      · cases h
    · cases h
  · cases h
def eltsAt (H : Nat → Option Blk) (k : Nat) : Option Elts := match H k with
  | some b => b.elts
  | none => none
theorem eltsAt_sound {k : Nat} {e : Elts} (hB : HB ρ H nx w) (h : eltsAt H k = some e) (hl : 0 < e.len) :
    ∃ p, ρ k = some p ∧ ∀ (j : Nat) (u : SV), e.all[j]? = some u → w.cell? ⟨p.1, p.2 + j, none⟩ = some (u.conc ρ) := by
  unfold eltsAt at h
  split at h
  · rename_i b hb
    exact (hB.blk k b hb).at_ h hl
  · cases h
theorem eltsAt_keys {k : Nat} {e : Elts} (hB : HB ρ H nx w) (h : eltsAt H k = some e) : k < nx ∧ ∀ k' ∈ keysOf e.all, k' < nx := by
  unfold eltsAt at h
  split at h
  · rename_i b hb
    refine ⟨(hB.key k b hb).1, fun k' hk' => (hB.key k b hb).2 k' ?_⟩
    cases b <;> first | (cases h; done) | (cases h; exact hk')
  · cases h
def pFieldAddr (tab : List (Nat × TD)) (fr : Nat → Option AV) (H : Nat → Option Blk) (t : TypeId) (x : Operand) (f : Nat) : Option (Prop × AV) := match tget tab t, ev fr x with
  | some d, some (.one (.ptr k sz i f0)) => match d.kind, eltsAt H k with
    | .st fs, some e => match nth fs f with
      | some (o, ft) => match tget tab ft with
        | some d' => match d'.size with
          | 0 => none
          | _ + 1 => some (i < e.len, .one (.ptr k sz i (f0 + o)))
        | none => none
      | none => none
    | _, _ => none
  | _, _ => none
theorem pFieldAddr_sound (hT : TabOK P tab) {t : TypeId} {x : Operand} {f : Nat} (ho : o.op = .fieldAddr t x f) (hF : FInv N ρ fr nx a) (hB : HB ρ H nx w) (h : pFieldAddr tab fr H t x f = some (c, v)) (hc : c) : PS P o a w ρ nx v := by
  unfold pFieldAddr at h
  split at h
  · rename_i d k sz i f0 hd hx
    split at h
    · rename_i fs e hk he
      split at h
      · rename_i of ft hp
        split at h
        · rename_i d' hd'
          split at h
          · cases h
          · rename_i m hm
            cases h
            obtain ⟨h1, h2⟩ := ev_sound hF hB.nil hB.pos hx
            obtain ⟨q, hq, _⟩ := eltsAt_sound hB he (by omega)
            obtain ⟨F, hF1, hF2⟩ := (hT t d hd).struct hk
            rw [nth_eq, ← hF2, List.getElem?_map] at hp
            cases hf : F.toList[f]? with
            | none => rw [hf] at hp; cases hp
            | some fd =>
              rw [hf] at hp
              cases hp
              refine ⟨?_, fun k hk => h2 k hk⟩
              have hf' : F[f]? = some fd := by simpa using hf
              have h1' : a.eval x = .pointer (some ⟨q.1, q.2 + (i * sz + f0), none⟩) := by rw [h1]; simp [AV.conc, SV.conc, adr, hq]
              have hs := (hT _ _ hd').run_size (w := w)
              simp only [execOp, ho, h1']
              simp [Instr.fieldAt, run_underlying hF1, hf', Instr.sureAddr, fieldPlace, hs, hm, Addr.add_none, AV.conc, SV.conc, adr, hq, Nat.add_assoc]
        · cases h
      · cases h
    · cases h
  · cases h
def pIndexAddr (tab : List (Nat × TD)) (fr : Nat → Option AV) (H : Nat → Option Blk) (t : TypeId) (x y : Operand) : Option (Prop × AV) := match tget tab t, ev fr x, ev fr y with
  | some d, some (.one (.sl k sz off len _)), some (.one (.int i)) => match d.kind, eltsAt H k with
    | .sl et, some e => match tget tab et with
      | some d' => match Nat.beq d'.size sz with
        | true => some ((0 ≤ i ∧ i < (len : Int)) ∧ 0 < e.len, .one (.ptr k sz (off + i.toNat) 0))
        | false => none
      | none => none
    | _, _ => none
  | some d, some (.one (.ptr k sz i f0)), some (.one (.int j)) => match d.kind, eltsAt H k with
    | .ar n et, some e => match tget tab et with
      | some d' => some ((0 ≤ j ∧ j < (n : Int)) ∧ i < e.len, .one (.ptr k sz i (f0 + j.toNat * d'.size)))
      | none => none
    | _, _ => none
  | _, _, _ => none
theorem TOK.array {n : Nat} {et : TypeId} {t : TypeId} {d : TD} (h : TOK P t d) (hk : d.kind = .ar n et) : P.underlying t = some (.array n et) := by
  obtain ⟨D, hD⟩ := h.und
  have h1 := h.kind
  unfold kindOf at h1
  rw [hD, hk] at h1
  cases D <;> simp at h1
  rw [hD, h1.1, h1.2]
theorem pIndexAddr_all (hT : TabOK P tab) {t : TypeId} {x y : Operand} (ho : o.op = .indexAddr t x y) (hF : FInv N ρ fr nx a) (hB : HB ρ H nx w) (h : pIndexAddr tab fr H t x y = some (c, v)) (hc : c) (w' : World) : PS P o a w' ρ nx v := by
  unfold pIndexAddr at h
  split at h
  · rename_i d k sz off len cap i hd hx hy
    split at h
    · rename_i et e hk he
      split at h
      · rename_i d' hd'
        split at h
        · rename_i hsz
          have hsz := Nat.eq_of_beq_eq_true hsz
          cases h
          obtain ⟨⟨c1, c2⟩, c3⟩ := hc
          obtain ⟨h1, h2⟩ := ev_sound hF hB.nil hB.pos hx
          obtain ⟨h3, _⟩ := ev_sound hF hB.nil hB.pos hy
          obtain ⟨q, hq, _⟩ := eltsAt_sound hB he c3
          refine ⟨?_, fun k hk => h2 k hk⟩
          have h1' : a.eval x = .slice (some ⟨q.1, q.2 + (off * sz), none⟩) len cap := by rw [h1]; simp [AV.conc, SV.conc, adr, hq]
          have h3' : a.eval y = .int .i64 i := h3
          have hs := (hT _ _ hd').run_size (w := w')
          simp only [execOp, ho, h1', h3']
          simp [Instr.indexAt, run_underlying ((hT t d hd).slice hk), asIntOf, hs, hsz, Addr.add_none, AV.conc, SV.conc, adr, hq, c1, c2, Nat.add_mul, Nat.add_assoc]
        · cases h
      · cases h
    · cases h
  · rename_i d k sz i f0 j hd hx hy
    split at h
    · rename_i n et e hk he
      split at h
      · rename_i d' hd'
        cases h
        obtain ⟨⟨c1, c2⟩, c3⟩ := hc
        obtain ⟨h1, h2⟩ := ev_sound hF hB.nil hB.pos hx
        obtain ⟨h3, _⟩ := ev_sound hF hB.nil hB.pos hy
        obtain ⟨q, hq, _⟩ := eltsAt_sound hB he (by omega)
        refine ⟨?_, fun k hk => h2 k hk⟩
        have h1' : a.eval x = .pointer (some ⟨q.1, q.2 + (i * sz + f0), none⟩) := by rw [h1]; simp [AV.conc, SV.conc, adr, hq]
        have h3' : a.eval y = .int .i64 j := h3
        have hs := (hT _ _ hd').run_size (w := w')
        simp only [execOp, ho, h1', h3']
        simp [Instr.indexAt, run_underlying ((hT t d hd).array hk), asIntOf, Instr.sureAddr, hs, Addr.add_none, AV.conc, SV.conc, adr, hq, c1, c2, Nat.add_assoc]
      · cases h
    · cases h
  · cases h
theorem pIndexAddr_sound (hT : TabOK P tab) {t : TypeId} {x y : Operand} (ho : o.op = .indexAddr t x y) (hF : FInv N ρ fr nx a) (hB : HB ρ H nx w) (h : pIndexAddr tab fr H t x y = some (c, v)) (hc : c) : PS P o a w ρ nx v := pIndexAddr_all hT ho hF hB h hc w
def SV.isHd : SV → Bool
  | .hd .. => true
  | _ => false
def AV.told : AV → Bool
  | .one s => s.isHd
  | .agg l => l.any SV.isHd
  | .tup _ => false
def Elts.flag : Elts → Bool
  | .rows _ f _ => f
  | .vals f _ => f
  | .mats f _ => f
  | _ => false
def pLoad (tab : List (Nat × TD)) (fr : Nat → Option AV) (H : Nat → Option Blk) (t : TypeId) (x : Operand) : Option (Prop × AV) := match tget tab t, ev fr x with
  | some d, some (.one (.ptr k sz i f)) => match eltsAt H k with
    | some e => match Nat.beq e.sz sz, pPart (e.get i) f d with
      | true, some v => match e.flag && v.told with
        | true => none
        | false => some (i < e.len, v)
      | _, _ => none
    | none => none
  | _, _ => none
theorem load_at (hT : TabOK P tab) {t : TypeId} {x : Operand} (ho : o.op = .load t x) (hF : FInv N ρ fr nx a) (hB : HB ρ H nx w) {d : TD} {k sz i f : Nat} {e : Elts} (hd : tget tab t = some d) (hx : ev fr x = some (.one (.ptr k sz i f))) (he : eltsAt H k = some e)
    (hsz : Nat.beq e.sz sz = true) (hp : pPart (e.get i) f d = some v) (hc : i < e.len) : PS P o a w ρ nx v := by
        have hsz := Nat.eq_of_beq_eq_true hsz
        obtain ⟨h1, h2⟩ := ev_sound hF hB.nil hB.pos hx
        obtain ⟨q, hq, hcell⟩ := eltsAt_sound hB he (by omega)
        have hkeys := (eltsAt_keys hB he).2
        have hat : ∀ j, j < e.sz → e.all[i * e.sz + j]? = (e.get i)[j]? := fun j hj => Elts.get_all hc hj
        refine ⟨?_, fun k' hk' => ?_⟩
        · have h1' : a.eval x = .pointer (some ⟨q.1, q.2 + (i * sz + f), none⟩) := by rw [h1]; simp [AV.conc, SV.conc, adr, hq]
          have hagg := (hT t d hd).run_isAgg (w := w)
          have hs := (hT t d hd).run_size (w := w)
          simp only [execOp, ho, h1']
          unfold pPart at hp
          split at hp
          · rename_i hk
            split at hp
            · rename_i s hs'
              cases hp
              rw [nth_eq] at hs'
              rw [hk] at hagg
              have hf : f < e.sz := by rw [← Elts.get_len e i]; exact (List.getElem?_eq_some_iff.1 hs').1
              have := hcell (i * e.sz + f) s ((hat f hf).trans hs')
              rw [hsz] at this
              simp [Instr.loadAt, Instr.sureAddr, loadVar, hagg, this, AV.conc]
            · cases hp
          · rename_i hk
            split at hp
            · rename_i hb
              cases hp
              have hb := Nat.le_of_ble_eq_true hb
              rw [hk] at hagg
              rw [Elts.get_len] at hb
              have hl := run_loadCells_list (P := P) w ⟨q.1, q.2 + (i * sz + f), none⟩ (cells ρ (((e.get i).drop f).take d.size)) (fun j u hu => by
                simp only [cells, List.getElem?_map] at hu
                cases hj : (((e.get i).drop f).take d.size)[j]? with
                | none => rw [hj] at hu; cases hu
                | some s =>
                  rw [hj] at hu; cases hu
                  rw [List.getElem?_take] at hj
                  split at hj
                  · rename_i hjd
                    rw [List.getElem?_drop] at hj
                    have := hcell (i * e.sz + (f + j)) s ((hat (f + j) (by omega)).trans hj)
                    rw [Addr.add_none]
                    rw [hsz] at this
                    rw [← this]
                    congr 2
                    omega
                  · cases hj)
              have hlen : (cells ρ (((e.get i).drop f).take d.size)).length = d.size := by
                simp [cells, Elts.get_len]; omega
              rw [hlen] at hl
              simp [Instr.loadAt, Instr.sureAddr, loadVar, hagg, hs, hl, AV.conc]
            · cases hp
        · refine hkeys k' ?_
          have h5 := pPart_keys hp k' hk'
          obtain ⟨s, hs, hk⟩ := List.mem_flatMap.1 h5
          obtain ⟨j, hj⟩ := List.getElem?_of_mem hs
          have hjl : j < e.sz := by rw [← Elts.get_len e i]; exact (List.getElem?_eq_some_iff.1 hj).1
          exact List.mem_flatMap.2 ⟨s, List.mem_of_getElem? ((hat j hjl).trans hj), hk⟩
theorem pLoad_sound (hT : TabOK P tab) {t : TypeId} {x : Operand} (ho : o.op = .load t x) (hF : FInv N ρ fr nx a) (hB : HB ρ H nx w) (h : pLoad tab fr H t x = some (c, v)) (hc : c) : PS P o a w ρ nx v := by
  unfold pLoad at h
  split at h
  · rename_i d k sz i f hd hx
    split at h
    · rename_i e he
      split at h
      · rename_i u hsz hp
        split at h
        · cases h
        · cases h
          exact load_at hT ho hF hB hd hx he hsz hp hc
      · cases h
    · cases h
  · cases h
def TV.av : TV → AV
  | .one s => .one s
  | .agg l => .agg l
def pExtract (fr : Nat → Option AV) (x : Operand) (i : Nat) : Option (Prop × AV) := match ev fr x with
  | some (.tup l) => match nth l i with
    | some u => some (True, u.av)
    | none => none
  | _ => none
theorem TV.av_conc {u : TV} : u.av.conc ρ = u.conc ρ := by cases u <;> rfl
theorem TV.av_keys {u : TV} : u.av.keys = u.keys := by cases u <;> rfl
theorem pExtract_sound {x : Operand} {i : Nat} (ho : o.op = .extract x i) (hF : FInv N ρ fr nx a) (hB : HB ρ H nx w) (h : pExtract fr x i = some (c, v)) : PS P o a w ρ nx v := by
  unfold pExtract at h
  split at h
  · rename_i l hx
    split at h
    · rename_i u hu
      cases h
      obtain ⟨h1, h2⟩ := ev_sound hF hB.nil hB.pos hx
      rw [nth_eq] at hu
      have h1' : a.eval x = .tuple (l.map (TV.conc ρ)).toArray := h1
      refine ⟨?_, fun k hk => h2 k ?_⟩
      · simp only [execOp, ho, h1']
        simp [Instr.extract, hu, TV.av_conc]
      · rw [TV.av_keys] at hk
        exact List.mem_flatMap.2 ⟨u, List.mem_of_getElem? hu, hk⟩
    · cases h
  · cases h
def capKeys (fr : Nat → Option AV) : List Operand → Option (List (Nat × Nat))
  | [] => some []
  | x :: r => match ev fr x, capKeys fr r with
    | some (.one (.ptr k sz 0 0)), some l => some ((k, sz) :: l)
    | _, _ => none
theorem capKeys_sound (hF : FInv N ρ fr nx a) (hB : HB ρ H nx w) : ∀ {xs : List Operand} {l : List (Nat × Nat)}, capKeys fr xs = some l →
    xs.map a.eval = l.map (fun k => Value.pointer (adr ρ k.1 0)) ∧ ∀ k ∈ l, k.1 < nx
  | [], l, h => by cases h; simp
  | x :: r, l, h => by
    unfold capKeys at h
    split at h
    · rename_i k sz l' hx hr
      cases h
      obtain ⟨h1, h2⟩ := ev_sound hF hB.nil hB.pos hx
      obtain ⟨h3, h4⟩ := capKeys_sound hF hB hr
      refine ⟨by simp [h1, h3, AV.conc, SV.conc], fun k' hk' => ?_⟩
      rcases List.mem_cons.1 hk' with rfl | hk'
      · exact h2 _ (by simp [AV.keys, SV.keys])
      · exact h4 _ hk'
    · cases h
def pMakeFunc (fr : Nat → Option AV) (fn : Fn) (first caps : Array Operand) : Option (Prop × AV) := match fn, first.toList, capKeys fr caps.toList with
  | .func f, [], some l => some (True, .one (.fn f l))
  | _, _, _ => none
theorem pMakeFunc_sound {fn : Fn} {first caps : Array Operand} (ho : o.op = .makeFunc fn first caps) (hF : FInv N ρ fr nx a) (hB : HB ρ H nx w) (h : pMakeFunc fr fn first caps = some (c, v)) : PS P o a w ρ nx v := by
  unfold pMakeFunc at h
  split at h
  · rename_i f l hf hl
    cases h
    obtain ⟨h1, h2⟩ := capKeys_sound hF hB hl
    refine ⟨?_, fun k hk => by
      obtain ⟨q, hq, rfl⟩ := List.mem_map.1 (show k ∈ l.map (·.1) from hk)
      exact h2 q hq⟩
    have hf' : first = #[] := by simpa using hf
    have hc : caps.map a.eval = (l.map (fun k => Value.pointer (adr ρ k.1 0))).toArray := by rw [← h1, ← Array.toList_map, Array.toArray_toList]
    simp only [execOp, ho, hf', hc]
    simp [Instr.makeFunc, AV.conc, SV.conc]
  · cases h
def pNilCheck (fr : Nat → Option AV) (H : Nat → Option Blk) (x : Operand) : Option (Prop × AV) := match ev fr x with
  | some (.one (.ptr k sz i f)) => match eltsAt H k with
    | some e => some (0 < e.len, .one (.ptr k sz i f))
    | none => none
  | some (.one (.fn f l)) => some (True, .one (.fn f l))
  | _ => none
theorem pNilCheck_sound {x : Operand} (ho : o.op = .nilCheck x) (hF : FInv N ρ fr nx a) (hB : HB ρ H nx w) (h : pNilCheck fr H x = some (c, v)) (hc : c) : PS P o a w ρ nx v := by
  unfold pNilCheck at h
  split at h
  · rename_i k sz i f hx
    split at h
    · rename_i e he
      cases h
      obtain ⟨h1, h2⟩ := ev_sound hF hB.nil hB.pos hx
      obtain ⟨q, hq, _⟩ := eltsAt_sound hB he hc
      have h1' : a.eval x = .pointer (some ⟨q.1, q.2 + (i * sz + f), none⟩) := by rw [h1]; simp [AV.conc, SV.conc, adr, hq]
      refine ⟨?_, h2⟩
      simp only [execOp, ho, h1']
      simp [AV.conc, SV.conc, adr, hq]
    · cases h
  · rename_i f l hx
    cases h
    obtain ⟨h1, h2⟩ := ev_sound hF hB.nil hB.pos hx
    have h1' : a.eval x = .func (.func f) #[] (l.map fun k => Value.pointer (adr ρ k.1 0)).toArray := h1
    refine ⟨?_, h2⟩
    simp only [execOp, ho, h1']
    simp [AV.conc, SV.conc]
  · cases h
def evO (fr : Nat → Option AV) : Option Operand → Option (Option Int)
  | none => some none
  | some x => match ev fr x with
    | some (.one (.int n)) => some (some n)
    | _ => none
def slOff (off lo cap : Nat) : Nat := if cap = lo then off else off + lo
def pSlice (tab : List (Nat × TD)) (fr : Nat → Option AV) (t : TypeId) (x : Operand) (lo hi mx : Option Operand) : Option (Prop × AV) := match tget tab t, ev fr x, evO fr lo, evO fr hi, evO fr mx with
  | some d, some (.one (.sl k sz off len cap)), some l, some h, some m => match d.kind with
    | .sl et => match tget tab et with
      | some d' => match Nat.beq d'.size sz, l, h, m with
        | true, none, none, none => some (True, .one (.sl k sz off len cap))
        | true, some l, none, none => some ((0 ≤ l ∧ l ≤ (len : Int)), .one (.sl k sz (slOff off l.toNat cap) (len - l.toNat) (cap - l.toNat)))
        | true, none, some h, none => some ((0 ≤ h ∧ h ≤ (cap : Int)), .one (.sl k sz off h.toNat cap))
        | true, some l, some h, none => some ((0 ≤ l ∧ l ≤ h) ∧ h ≤ (cap : Int), .one (.sl k sz (slOff off l.toNat cap) (h.toNat - l.toNat) (cap - l.toNat)))
        | true, none, some h, some m => some ((0 ≤ h ∧ h ≤ m) ∧ m ≤ (cap : Int), .one (.sl k sz off h.toNat m.toNat))
        | _, _, _, _ => none
      | none => none
    | _ => none
  | _, _, _, _, _ => none
theorem evO_sound (hF : FInv N ρ fr nx a) (hB : HB ρ H nx w) {x : Option Operand} {l : Option Int} (h : evO fr x = some l) : x.map a.eval = l.map (Value.int .i64) := by
  unfold evO at h
  split at h
  · cases h; rfl
  · split at h
    · rename_i x n hx
      cases h
      obtain ⟨h1, _⟩ := ev_sound hF hB.nil hB.pos hx
      simp only [Option.map_some, h1, AV.conc, SV.conc]
    · cases h
theorem adr_sl {k n m : Nat} : (adr ρ k n).map (fun a => a.add m) = adr ρ k (n + m) := by
  unfold adr
  cases ρ k with
  | none => rfl
  | some p => simp [Addr.add_none, Nat.add_assoc]
theorem pSlice_sound (hT : TabOK P tab) {t : TypeId} {x : Operand} {lo hi mx : Option Operand} (ho : o.op = .slice t x lo hi mx) (hF : FInv N ρ fr nx a) (hB : HB ρ H nx w) (h : pSlice tab fr t x lo hi mx = some (c, v)) (hc : c) : PS P o a w ρ nx v := by
  unfold pSlice at h
  split at h
  · rename_i d k sz off len cap l h' m hd hx hl hh hm
    split at h
    · rename_i et hk
      split at h
      · rename_i d' hd'
        obtain ⟨h1, h2⟩ := ev_sound hF hB.nil hB.pos hx
        have h1' : a.eval x = .slice (adr ρ k (off * sz)) len cap := h1
        have e1 := evO_sound hF hB hl
        have e2 := evO_sound hF hB hh
        have e3 := evO_sound hF hB hm
        have hu := (hT t d hd).slice hk
        have hs := (hT _ _ hd').run_size (w := w)
        have hel : P.elem t = et := by simp [Program.elem, hu]
        have hu' : P.underlying t = some (.slice (P.elem t)) := by rw [hel]; exact hu
        rw [← hel] at hs
        have go : (execOp a.eval o).run P w = ((Instr.slice t (.slice (adr ρ k (off * sz)) len cap) (l.map (Value.int .i64)) (h'.map (Value.int .i64)) (m.map (Value.int .i64))).run P w).andThen fun v w => .ok (.value v) w := by
          simp only [execOp, ho, h1', e1, e2, e3]
          simp [Instr.sliceAt, run_underlying hu]
        unfold PS
        rw [go]
        have key : ∀ (L Hh M : Nat), Nat.beq d'.size sz = true → (sliced (adr ρ k (off * sz)) L Hh M d'.size) = (AV.one (.sl k sz (slOff off L M) (Hh - L) (M - L))).conc ρ := fun L Hh M hsz => by
          have hsz := Nat.eq_of_beq_eq_true hsz
          simp only [sliced, AV.conc, SV.conc, slOff, hsz]
          split
          · rfl
          · rw [adr_sl, ← Nat.add_mul]
        have key0 : ∀ (Hh M : Nat), Nat.beq d'.size sz = true → (sliced (adr ρ k (off * sz)) 0 Hh M d'.size) = (AV.one (.sl k sz off Hh M)).conc ρ := fun Hh M hsz => by
          rw [key 0 Hh M hsz]; simp [slOff]
        split at h
        · rename_i hsz
          cases h
          refine ⟨?_, h2⟩
          rw [Option.map_none, run_slice_all w t _ len cap hu', hs, Result.andThen_ok, Result.andThen_ok, key0 _ _ hsz]
        · rename_i l hsz
          cases h
          refine ⟨?_, h2⟩
          rw [Option.map_none, Option.map_some, run_slice_l w t _ len cap hu' _ _ hc.1 hc.2, hs, Result.andThen_ok, Result.andThen_ok, key _ _ _ hsz]
        · rename_i h' hsz
          cases h
          refine ⟨?_, h2⟩
          rw [Option.map_none, Option.map_some, run_slice_h w t _ len cap hu' _ _ hc.1 hc.2, hs, Result.andThen_ok, Result.andThen_ok, key0 _ _ hsz]
        · rename_i l h' hsz
          cases h
          refine ⟨?_, h2⟩
          rw [Option.map_none, Option.map_some, Option.map_some, run_slice_lh w t _ len cap hu' _ _ _ _ hc.1.1 hc.1.2 hc.2, hs, Result.andThen_ok, Result.andThen_ok, key _ _ _ hsz]
        · rename_i h' m hsz
          cases h
          refine ⟨?_, h2⟩
          rw [Option.map_none, Option.map_some, Option.map_some, run_slice_hm w t _ len cap hu' _ _ _ _ hc.1.1 hc.1.2 hc.2, hs, Result.andThen_ok, Result.andThen_ok, key0 _ _ hsz]
        · cases h
      · cases h
    · cases h
  · cases h
def pCall (tab : List (Nat × TD)) (fr : Nat → Option AV) (b : Builtin) (args : Array Operand) (ts : Array TypeId) : Option (Prop × AV) := match b, args.toList with
  | .len, [x] => match ev fr x, ts.toList with
    | some (.one (.sl _ _ _ len _)), [t] => match tget tab t with
      | some d => match d.kind with
        | .sl _ => some (True, .one (.int len))
        | _ => none
      | none => none
    | _, _ => none
  | .min, [x, y] => match ev fr x, ev fr y with
    | some (.one (.int n)), some (.one (.int m)) => some (True, .one (.int (if m < n then m else n)))
    | _, _ => none
  | .max, [x, y] => match ev fr x, ev fr y with
    | some (.one (.int n)), some (.one (.int m)) => some (True, .one (.int (if n < m then m else n)))
    | _, _ => none
  | _, _ => none
theorem pCall_sound (hT : TabOK P tab) {b : Builtin} {args : Array Operand} {ts : Array TypeId} (ho : o.op = .call ⟨.builtin b, args, ts⟩) (hF : FInv N ρ fr nx a) (hB : HB ρ H nx w) (h : pCall tab fr b args ts = some (c, v)) : PS P o a w ρ nx v := by
  unfold pCall at h
  split at h
  · rename_i x hargs
    have ha : args = #[x] := by rw [← Array.toArray_toList (xs := args), hargs]
    split at h
    · rename_i k sz off len cap t hx hts
      have ht : ts = #[t] := by rw [← Array.toArray_toList (xs := ts), hts]
      split at h
      · rename_i d hd
        split at h
        · rename_i et hk
          cases h
          obtain ⟨h1, _⟩ := ev_sound hF hB.nil hB.pos hx
          have h1' : a.eval x = .slice (adr ρ k (off * sz)) len cap := h1
          have hu := (hT t d hd).slice hk
          refine ⟨?_, by simp [AV.keys, SV.keys]⟩
          simp only [execOp, ho, resolve, ha, ht]
          simp [h1', invoke, builtin, Builtin.len_, run_underlying hu, AV.conc, SV.conc, goInt]
        · cases h
      · cases h
    · cases h
  · rename_i x y hargs
    have ha : args = #[x, y] := by rw [← Array.toArray_toList (xs := args), hargs]
    split at h
    · rename_i n m hx hy
      cases h
      obtain ⟨h1, _⟩ := ev_sound hF hB.nil hB.pos hx
      obtain ⟨h2, _⟩ := ev_sound hF hB.nil hB.pos hy
      have h1' : a.eval x = .int .i64 n := h1
      have h2' : a.eval y = .int .i64 m := h2
      refine ⟨?_, by simp [AV.keys, SV.keys]⟩
      simp only [execOp, ho, resolve, ha]
      simp [h1', h2', invoke, builtin, run_min_int2, AV.conc, SV.conc]
    · cases h
  · rename_i x y hargs
    have ha : args = #[x, y] := by rw [← Array.toArray_toList (xs := args), hargs]
    split at h
    · rename_i n m hx hy
      cases h
      obtain ⟨h1, _⟩ := ev_sound hF hB.nil hB.pos hx
      obtain ⟨h2, _⟩ := ev_sound hF hB.nil hB.pos hy
      have h1' : a.eval x = .int .i64 n := h1
      have h2' : a.eval y = .int .i64 m := h2
      refine ⟨?_, by simp [AV.keys, SV.keys]⟩
      simp only [execOp, ho, resolve, ha]
      simp [h1', h2', invoke, builtin, run_max_int2, AV.conc, SV.conc]
    · cases h
  · cases h
def AV.flat : AV → Option (List SV)
  | .one s => some [s]
  | .agg l => some l
  | .tup _ => none
theorem SV.cells_conc {s : SV} : (s.conc ρ).cells = #[s.conc ρ] := by cases s <;> rfl
theorem AV.flat_sound {u : AV} {l : List SV} (h : u.flat = some l) : (u.conc ρ).cells = (cells ρ l).toArray ∧ u.keys = keysOf l := by
  cases u with
  | one s => cases h; exact ⟨by simp [AV.conc, SV.cells_conc, cells], by simp [AV.keys, keysOf]⟩
  | agg l' => cases h; exact ⟨rfl, rfl⟩
  | tup l' => cases h
def evParts (fr : Nat → Option AV) : List (Nat × Operand) → Option (List (Nat × List SV))
  | [] => some []
  | p :: r => match ev fr p.2, evParts fr r with
    | some u, some l => match u.flat with
      | some s => some ((p.1, s) :: l)
      | none => none
    | _, _ => none
def fillA (pl : Nat → Option (Nat × Nat)) : List SV → List (Nat × List SV) → Option (List SV)
  | l, [] => some l
  | l, p :: r => match pl p.1 with
    | some q => match Nat.beq p.2.length q.2, Nat.ble (q.1 + p.2.length) l.length with
      | true, true => fillA pl (splice l q.1 p.2) r
      | _, _ => none
    | none => none
theorem foldl_fill : ∀ (vs : List Value) (cs : Array Value) (o j : Nat), o + j + vs.length ≤ cs.size →
    ((vs.zipIdx j).foldl (fun cs x => cs.setIfInBounds (o + x.2) x.1) cs).toList = cs.toList.take (o + j) ++ vs ++ cs.toList.drop (o + j + vs.length)
  | [], cs, o, j, _ => by simp
  | x :: vs, cs, o, j, h => by
    simp only [List.zipIdx_cons, List.foldl_cons]
    rw [foldl_fill vs _ o (j + 1) (by simp at h ⊢; omega)]
    have hsz : cs.toList.length = cs.size := Array.length_toList
    simp only [List.length_cons] at h
    have hlt : o + j < cs.toList.length := by omega
    simp only [Array.toList_setIfInBounds]
    rw [show o + (j + 1) = o + j + 1 by omega, List.take_set, List.drop_set_of_lt (by omega)]
    rw [List.take_succ_eq_append_getElem hlt, List.set_append_right _ _ (by simp; omega)]
    simp only [List.length_take, List.length_cons]
    have h0 : o + j - min (o + j) cs.toList.length = 0 := by omega
    rw [h0]
    simp only [List.set_cons_zero, List.append_assoc, List.cons_append, List.nil_append]
    rw [show o + j + 1 + vs.length = o + j + (vs.length + 1) by omega]
theorem fill_sound {pl pl' : Nat → Option (Nat × Nat)} (hpl : ∀ i, pl' i = pl i) : ∀ (ps : List (Nat × List SV)) (vs : List (Nat × Value)) (l l' : List SV),
    vs.map (fun p => (p.1, p.2.cells)) = ps.map (fun p => (p.1, (cells ρ p.2).toArray)) → fillA pl l ps = some l' → Instr.fill pl' (cells ρ l).toArray vs = some (cells ρ l').toArray
  | [], vs, l, l', hv, h => by
    have : vs = [] := by simpa using hv
    subst this
    cases h; rfl
  | p :: ps, [], l, l', hv, h => by simp at hv
  | p :: ps, v :: vs, l, l', hv, h => by
    simp only [List.map_cons, List.cons.injEq, Prod.mk.injEq] at hv
    obtain ⟨⟨hv1, hv2⟩, hv3⟩ := hv
    unfold fillA at h
    split at h
    · rename_i q hq
      split at h
      · rename_i hb1 hb2
        have hb1 := Nat.eq_of_beq_eq_true hb1
        have hb2 := Nat.le_of_ble_eq_true hb2
        unfold Instr.fill
        rw [hpl, hv1, hq]
        have hsz : v.2.cells.size = p.2.length := by rw [hv2]; simp [cells]
        have hsz2 : (cells ρ l).toArray.size = l.length := by simp [cells]
        simp only [hsz, hsz2]
        rw [if_neg (by simp [hb1]; omega)]
        have hstep : (v.2.cells.zipIdx.foldl (fun cs (x : Value × Nat) => cs.setIfInBounds (q.1 + x.2) x.1) (cells ρ l).toArray) = (cells ρ (splice l q.1 p.2)).toArray := by
          apply Array.toList_inj.1
          rw [← Array.foldl_toList, Array.toList_zipIdx, hv2]
          rw [foldl_fill _ _ _ 0 (by simp [cells]; omega)]
          simp [cells, splice, List.map_take, List.map_drop]
        rw [show (fun (cs : Array Value) (x : Value × Nat) => match x with | (c, j) => cs.setIfInBounds (q.1 + j) c) = (fun cs x => cs.setIfInBounds (q.1 + x.2) x.1) from rfl, hstep]
        exact fill_sound hpl ps vs _ _ hv3 h
      · cases h
    · cases h
theorem evParts_sound (hF : FInv N ρ fr nx a) (hB : HB ρ H nx w) : ∀ {ps : List (Nat × Operand)} {l : List (Nat × List SV)}, evParts fr ps = some l →
    (ps.map (fun p => (p.1, a.eval p.2))).map (fun p => (p.1, p.2.cells)) = l.map (fun p => (p.1, (cells ρ p.2).toArray)) ∧ ∀ p ∈ l, ∀ k ∈ keysOf p.2, k < nx
  | [], l, h => by cases h; simp
  | p :: ps, l, h => by
    unfold evParts at h
    split at h
    · rename_i u l' hu hl
      split at h
      · rename_i s hs
        cases h
        obtain ⟨h1, h2⟩ := ev_sound hF hB.nil hB.pos hu
        obtain ⟨h3, h4⟩ := evParts_sound hF hB hl
        obtain ⟨h5, h6⟩ := AV.flat_sound (ρ := ρ) hs
        refine ⟨by simp only [List.map_cons, h3, h1, h5], fun q hq k hk => ?_⟩
        rcases List.mem_cons.1 hq with rfl | hq
        · exact h2 k (by rw [h6]; exact hk)
        · exact h4 q hq k hk
      · cases h
    · cases h
theorem fillA_keys {pl : Nat → Option (Nat × Nat)} {n : Nat} : ∀ (ps : List (Nat × List SV)) (l l' : List SV), fillA pl l ps = some l' → (∀ k ∈ keysOf l, k < n) → (∀ p ∈ ps, ∀ k ∈ keysOf p.2, k < n) → l'.length = l.length ∧ ∀ k ∈ keysOf l', k < n
  | [], l, l', h, h1, _ => by cases h; exact ⟨rfl, h1⟩
  | p :: ps, l, l', h, h1, h2 => by
    unfold fillA at h
    split at h
    · rename_i q hq
      split at h
      · rename_i hb1 hb2
        have hb2 := Nat.le_of_ble_eq_true hb2
        obtain ⟨h3, h4⟩ := fillA_keys ps _ _ h (fun k hk => by
          obtain ⟨s, hs, hk⟩ := List.mem_flatMap.1 hk
          simp only [splice, List.mem_append] at hs
          rcases hs with (hs | hs) | hs
          · exact h1 k (List.mem_flatMap.2 ⟨s, List.mem_of_mem_take hs, hk⟩)
          · exact h2 p (by simp) k (List.mem_flatMap.2 ⟨s, hs, hk⟩)
          · exact h1 k (List.mem_flatMap.2 ⟨s, List.mem_of_mem_drop hs, hk⟩)) (fun q hq => h2 q (by simp [hq]))
        exact ⟨by rw [h3, splice_len hb2], h4⟩
      · cases h
    · cases h
def placesOf (tab : List (Nat × TD)) : List (Nat × TypeId) → Option (List (Nat × Nat))
  | [] => some []
  | p :: r => match tget tab p.2, placesOf tab r with
    | some d, some l => some ((p.1, d.size) :: l)
    | _, _ => none
theorem placesOf_sound (hT : TabOK P tab) : ∀ {F : List Field} {pl : List (Nat × Nat)}, placesOf tab (F.map fun f => (f.offset, f.type)) = some pl →
    F.mapM (fun f => (P.info? f.type).map fun i => (f.offset, i.size)) = some pl
  | [], pl, h => by cases h; rfl
  | f :: F, pl, h => by
    simp only [List.map_cons, placesOf] at h
    split at h
    · rename_i d l hd hl
      cases h
      obtain ⟨i, hi, _, hs, _⟩ := (hT _ _ hd).infoE
      simp [List.mapM_cons, hi, hs, placesOf_sound hT hl]
    · cases h
def pBuild (tab : List (Nat × TD)) (fr : Nat → Option AV) (t : TypeId) (parts : Array (Nat × Operand)) : Option (Prop × AV) := match tget tab t, evParts fr parts.toList with
  | some d, some ps => match d.kind with
    | .st fs => match placesOf tab fs with
      | some pl => match fillA (nth pl) d.zero ps with
        | some l => some (True, .agg l)
        | none => none
      | none => none
    | .ar _ e => match tget tab e with
      | some d' => match fillA (fun i => some (i * d'.size, d'.size)) d.zero ps with
        | some l => some (True, .agg l)
        | none => none
      | none => none
    | _ => none
  | _, _ => none
theorem zero_cells {t : TypeId} {d : TD} (hd : TOK P t d) (h0 : ρ 0 = none) : cells noRho d.zero = cells ρ d.zero :=
  cells_congr fun k hk => by rw [hd.zk k hk, h0]; rfl
theorem pBuild_sound (hT : TabOK P tab) {t : TypeId} {parts : Array (Nat × Operand)} (ho : o.op = .build t parts) (hF : FInv N ρ fr nx a) (hB : HB ρ H nx w) (h : pBuild tab fr t parts = some (c, v)) : PS P o a w ρ nx v := by
  unfold pBuild at h
  split at h
  · rename_i d ps hd hps
    obtain ⟨h1, h2⟩ := evParts_sound hF hB hps
    have hpar : (parts.map fun p => (p.1, a.eval p.2)).toList = parts.toList.map fun p => (p.1, a.eval p.2) := by simp
    have hz : ∀ k ∈ keysOf d.zero, k < nx := fun k hk => by rw [(hT t d hd).zk k hk]; exact hB.pos
    obtain ⟨i, hi, hzv, _⟩ := (hT t d hd).infoE
    have go : ∀ cs, P.built t (parts.toList.map fun p => (p.1, a.eval p.2)) = some cs → (execOp a.eval o).run P w = .ok (.value (.agg cs)) w := fun cs hcs => by
      simp only [execOp, ho]
      have hr := run_build (P := P) w t (parts.map fun p => (p.1, a.eval p.2)) cs (by rw [hpar]; exact hcs)
      rw [Sem.run_bind]
      rw [show (parts.map fun x => match x with | (i, x) => (i, a.eval x)) = parts.map fun p => (p.1, a.eval p.2) from rfl, hr]
      simp
    split at h
    · rename_i fs hk
      split at h
      · rename_i pl hpl
        split at h
        · rename_i l hl
          cases h
          obtain ⟨F, hF1, hF2⟩ := (hT t d hd).struct hk
          obtain ⟨_, h4⟩ := fillA_keys ps _ _ hl hz h2
          refine ⟨go _ ?_, h4⟩
          rw [← hF2] at hpl
          have h5 := placesOf_sound (P := P) hT hpl
          unfold Program.built
          simp only [hi, hF1, hzv, h5]
          have hzc : d.zeroV.cells = (cells ρ d.zero).toArray := by
            rw [← zero_cells (hT t d hd) hB.nil]; simp [TD.zeroV, hk, Value.cells]
          rw [hzc]
          exact fill_sound (fun i => by simp [nth_eq]) ps _ _ _ h1 hl
        · cases h
      · cases h
    · rename_i n e hk
      split at h
      · rename_i d' hd'
        split at h
        · rename_i l hl
          cases h
          obtain ⟨_, h4⟩ := fillA_keys ps _ _ hl hz h2
          refine ⟨go _ ?_, h4⟩
          obtain ⟨i', hi', _, hs', _⟩ := (hT e d' hd').infoE
          unfold Program.built
          simp only [hi, (hT t d hd).array hk, hzv, hi', hs']
          have hzc : d.zeroV.cells = (cells ρ d.zero).toArray := by
            rw [← zero_cells (hT t d hd) hB.nil]; simp [TD.zeroV, hk, Value.cells]
          rw [hzc]
          exact fill_sound (fun i => rfl) ps _ _ _ h1 hl
        · cases h
      · cases h
    · cases h
  · cases h
def pIndex (tab : List (Nat × TD)) (fr : Nat → Option AV) (t : TypeId) (x y : Operand) : Option (Prop × AV) := match tget tab t, ev fr x, ev fr y with
  | some d, some (.agg l), some (.one (.int j)) => match d.kind with
    | .ar n e => match tget tab e with
      | some d' => match pPart l (j.toNat * d'.size) d' with
        | some v => some (0 ≤ j ∧ j < (n : Int), v)
        | none => none
      | none => none
    | _ => none
  | _, _, _ => none
theorem pIndex_sound (hT : TabOK P tab) {t : TypeId} {x y : Operand} (ho : o.op = .index t x y) (hF : FInv N ρ fr nx a) (hB : HB ρ H nx w) (h : pIndex tab fr t x y = some (c, v)) (hc : c) : PS P o a w ρ nx v := by
  unfold pIndex at h
  split at h
  · rename_i d l j hd hx hy
    split at h
    · rename_i n e hk
      split at h
      · rename_i d' hd'
        split at h
        · rename_i u hu
          cases h
          obtain ⟨h1, h2⟩ := ev_sound hF hB.nil hB.pos hx
          obtain ⟨h3, _⟩ := ev_sound hF hB.nil hB.pos hy
          have h1' : a.eval x = .agg (cells ρ l).toArray := h1
          have h3' : a.eval y = .int .i64 j := h3
          refine ⟨?_, fun k hk => h2 k (pPart_keys hu k hk)⟩
          simp only [execOp, ho, h1', h3']
          simp [Instr.index, asIntOf, run_underlying ((hT t d hd).array hk), hc.1, hc.2, (hT e d' hd').run_size, pPart_sound hu (hT e d' hd')]
        · cases h
      · cases h
    · cases h
  · cases h
def pConvert (tab : List (Nat × TD)) (fr : Nat → Option AV) (t t' : TypeId) (x : Operand) : Option (Prop × AV) := match tget tab t, tget tab t', ev fr x with
  | some _, some d', some (.one (.u8 n)) => match d'.kind, d'.zero with
    | .sc, [.int 0] => some (True, .one (.int (wrapV n)))
    | _, _ => none
  | _, _, _ => none
theorem pConvert_sound (hT : TabOK P tab) (hit : ∀ t d, tget tab t = some d → d.kind = .sc → d.zero = [.int 0] → P.underlying t = some (.int .i64)) {t t' : TypeId} {x : Operand} (ho : o.op = .convert t t' x) (hF : FInv N ρ fr nx a) (hB : HB ρ H nx w) (h : pConvert tab fr t t' x = some (c, v)) : PS P o a w ρ nx v := by
  unfold pConvert at h
  split at h
  · rename_i d d' n hd hd' hx
    split at h
    · rename_i hk hz
      cases h
      obtain ⟨h1, _⟩ := ev_sound hF hB.nil hB.pos hx
      have h1' : a.eval x = .int .u8 n := h1
      obtain ⟨D, hD⟩ := (hT t d hd).und
      refine ⟨?_, by simp [AV.keys, SV.keys]⟩
      simp only [execOp, ho, h1']
      cases D <;> simp [convert, run_underlying hD, run_underlying (hit t' d' hd' hk hz), Conv.intToInt, AV.conc, SV.conc, wrapV]
    · cases h
  · cases h
def pstep (tab : List (Nat × TD)) (fr : Nat → Option AV) (H : Nat → Option Blk) : Op → Option (Prop × AV)
  | .move x => pMove fr x
  | .assign x => pMove fr x
  | .pick q x y => pPick fr q x y
  | .binOp op t x y _ => pBin tab fr op t x y
  | .unOp op _ x => pUn fr op x
  | .field t x f => pField tab fr t x f
  | .fieldAddr t x f => pFieldAddr tab fr H t x f
  | .indexAddr t x y => pIndexAddr tab fr H t x y
  | .index t x y => pIndex tab fr t x y
  | .load t x => pLoad tab fr H t x
  | .extract x i => pExtract fr x i
  | .makeFunc fn first caps => pMakeFunc fr fn first caps
  | .nilCheck x => pNilCheck fr H x
  | .slice t x lo hi mx => pSlice tab fr t x lo hi mx
  | .build t parts => pBuild tab fr t parts
  | .convert t t' x => pConvert tab fr t t' x
  | .call ⟨.builtin b, args, ts⟩ => pCall tab fr b args ts
  | _ => none
structure Tab (P : Program) (tab : List (Nat × TD)) : Prop where
  ok : TabOK P tab
  bl : ∀ t d, tget tab t = some d → d.kind = .sc → d.zero = [.bool false] → P.underlying t = some .bool
  it : ∀ t d, tget tab t = some d → d.kind = .sc → d.zero = [.int 0] → P.underlying t = some (.int .i64)
  eq : ∀ t d, tget tab t = some d → d.eqs = true → EqOK P t d.size
theorem Tab.nil : Tab P [] := ⟨TabOK.nil, fun _ _ h => (by cases h), fun _ _ h => (by cases h), fun _ _ h => by cases h⟩
structure TabE (P : Program) (t : TypeId) (d : TD) : Prop where
  bl : d.kind = .sc → d.zero = [.bool false] → P.underlying t = some .bool
  it : d.kind = .sc → d.zero = [.int 0] → P.underlying t = some (.int .i64)
  eq : d.eqs = true → EqOK P t d.size
theorem Tab.cons {t : Nat} {d : TD} {r : List (Nat × TD)} (h : TOK P t d) (hb : TabE P t d) (hr : Tab P r) : Tab P ((t, d) :: r) := by
  have key : ∀ {C : Nat → TD → Prop}, C t d → (∀ t d, tget r t = some d → C t d) → ∀ t' d', tget ((t, d) :: r) t' = some d' → C t' d' := fun h1 h2 t' d' h' => by
    unfold tget lk at h'
    cases e : Nat.beq t' t with
    | true => rw [e] at h'; have : t' = t := Nat.eq_of_beq_eq_true e
              subst this; cases h'; exact h1
    | false => rw [e] at h'; exact h2 t' d' h'
  exact ⟨hr.ok.cons h, key (C := fun t d => d.kind = .sc → d.zero = [.bool false] → P.underlying t = some .bool) hb.bl hr.bl, key (C := fun t d => d.kind = .sc → d.zero = [.int 0] → P.underlying t = some (.int .i64)) hb.it hr.it, key (C := fun t d => d.eqs = true → EqOK P t d.size) hb.eq hr.eq⟩
theorem pstep_sound (hT : Tab P tab) (hF : FInv N ρ fr nx a) (hB : HB ρ H nx w) (h : pstep tab fr H o.op = some (c, v)) (hc : c) : PS P o a w ρ nx v := by
  unfold pstep at h
  split at h
  · exact pMove_sound (.inl ‹_›) hF hB h
  · exact pMove_sound (.inr ‹_›) hF hB h
  · exact pPick_sound ‹_› hF hB h
  · exact pBin_sound hT.bl hT.eq ‹_› hF hB h hc
  · exact pUn_sound ‹_› hF hB h hc
  · exact pField_sound hT.ok ‹_› hF hB h
  · exact pFieldAddr_sound hT.ok ‹_› hF hB h hc
  · exact pIndexAddr_sound hT.ok ‹_› hF hB h hc
  · exact pIndex_sound hT.ok ‹_› hF hB h hc
  · exact pLoad_sound hT.ok ‹_› hF hB h hc
  · exact pExtract_sound ‹_› hF hB h
  · exact pMakeFunc_sound ‹_› hF hB h
  · exact pNilCheck_sound ‹_› hF hB h hc
  · exact pSlice_sound hT.ok ‹_› hF hB h hc
  · exact pBuild_sound hT.ok ‹_› hF hB h
  · exact pConvert_sound hT.ok hT.it ‹_› hF hB h
  · exact pCall_sound hT.ok ‹_› hF hB h
  · cases h
def pWrap (fr : Nat → Option AV) : Op → Option AV
  | .binOp .add _ x y _ => match ev fr x, ev fr y with
    | some (.one (.int n)), some (.one (.int m)) => some (.one (.int (wrapV (n + m))))
    | _, _ => none
  | .binOp .mul _ x y _ => match ev fr x, ev fr y with
    | some (.one (.int n)), some (.one (.int m)) => some (.one (.int (wrapV (n * m))))
    | _, _ => none
  | _ => none
theorem pWrap_sound (hF : FInv N ρ fr nx a) (hB : HB ρ H nx w) (h : pWrap fr o.op = some v) : PS P o a w ρ nx v := by
  unfold pWrap at h
  split at h
  all_goals first | (cases h; done) | skip
  all_goals
    rename_i ho
    split at h
    · rename_i n m hx hy
      cases h
      obtain ⟨h1, _⟩ := ev_sound hF hB.nil hB.pos hx
      obtain ⟨h2, _⟩ := ev_sound hF hB.nil hB.pos hy
      simp only [AV.conc, SV.conc] at h1 h2
      refine ⟨?_, by simp [AV.keys, SV.keys]⟩
      simp only [execOp, ho, h1, h2]
      simp [go_sem, AV.conc, SV.conc, wrapV]
    · cases h
end pure
theorem eqIn_int {P : Program} {d : Nat} {t : TypeId} {a b : Int} {w : World} (h : P.underlying t = some (.int .i64)) : (Op.equalIn (d + 1) t (.int .i64 a) (.int .i64 b)).run P w = .ok (a == b) w := by
  unfold Op.equalIn
  rw [Sem.run_bind, run_underlying h]
  simp
structure IntF (P : Program) (f : Field) (k : Nat) : Prop where
  name : f.name ≠ "_"
  off : f.offset = k
  und : P.underlying f.type = some (.int .i64)
theorem IntF.agg {P : Program} {f : Field} {k : Nat} {w : World} (h : IntF P f k) : (isAgg f.type).run P w = .ok false w := by simp [isAgg, run_underlying h.und]
theorem eqIn_st2 {P : Program} {d : Nat} {t : TypeId} {a b a' b' : Int} {w : World} {f g : Field} (h : P.underlying t = some (.struct #[f, g])) (hs : P.stoodInHeld t = false) (hf : IntF P f 0) (hg : IntF P g 1) :
    (Op.equalIn (d + 2) t (.agg #[.int .i64 a, .int .i64 b]) (.agg #[.int .i64 a', .int .i64 b'])).run P w = .ok (decide ([a, b] = [a', b'])) w := by
  unfold Op.equalIn
  rw [Sem.run_bind, run_underlying h]
  simp [hs, hf.name, hf.off, hg.name, hg.off, part, hf.agg, hg.agg, eqIn_int hf.und, eqIn_int hg.und]
  by_cases h1 : a = a' <;> by_cases h2 : b = b' <;> simp [h1, h2]
theorem eqIn_st3 {P : Program} {d : Nat} {t : TypeId} {a b c a' b' c' : Int} {w : World} {f g k : Field} (h : P.underlying t = some (.struct #[f, g, k])) (hs : P.stoodInHeld t = false) (hf : IntF P f 0) (hg : IntF P g 1) (hk : IntF P k 2) :
    (Op.equalIn (d + 2) t (.agg #[.int .i64 a, .int .i64 b, .int .i64 c]) (.agg #[.int .i64 a', .int .i64 b', .int .i64 c'])).run P w = .ok (decide ([a, b, c] = [a', b', c'])) w := by
  unfold Op.equalIn
  rw [Sem.run_bind, run_underlying h]
  simp [hs, hf.name, hf.off, hg.name, hg.off, hk.name, hk.off, part, hf.agg, hg.agg, hk.agg, eqIn_int hf.und, eqIn_int hg.und, eqIn_int hk.und]
  by_cases h1 : a = a' <;> by_cases h2 : b = b' <;> by_cases h3 : c = c' <;> simp [h1, h2, h3]
theorem EqOK.of {P : Program} {t : TypeId} {n : Nat} (hg : P.eqGuardType P.depth t = false) (h : ∀ (xs ys : List Int) (w : World), xs.length = n → ys.length = n → (Op.equalIn (9998 + 2) t (.agg (xs.map (Value.int .i64)).toArray) (.agg (ys.map (Value.int .i64)).toArray)).run P w = .ok (decide (xs = ys)) w) : EqOK P t n := by
  intro xs ys w x y e1 e2
  have h1 := h xs ys w e1 e2
  have hm : Op.maxDepth = 9998 + 2 := rfl
  constructor
  · simp [eqGuard, binOp, hg, Op.equal, hm, h1]
  · simp [eqGuard, binOp, hg, Op.equal, hm, h1]
theorem EqOK.two {P : Program} {t : TypeId} {f g : Field} (h : P.underlying t = some (.struct #[f, g])) (hs : P.stoodInHeld t = false) (he : P.eqGuardType P.depth t = false) (hf : IntF P f 0) (hg : IntF P g 1) : EqOK P t 2 :=
  .of he fun xs ys w e1 e2 => by
    match xs, ys, e1, e2 with
    | [a, b], [a', b'], _, _ => exact eqIn_st2 h hs hf hg
theorem EqOK.three {P : Program} {t : TypeId} {f g k : Field} (h : P.underlying t = some (.struct #[f, g, k])) (hs : P.stoodInHeld t = false) (he : P.eqGuardType P.depth t = false) (hf : IntF P f 0) (hg : IntF P g 1) (hk : IntF P k 2) : EqOK P t 3 :=
  .of he fun xs ys w e1 e2 => by
    match xs, ys, e1, e2 with
    | [a, b, c], [a', b', c'], _, _ => exact eqIn_st3 h hs hf hg hk
end Go.Proofs.YtekpamojojfplaaGreat
