/-
  TEXTS OF THE PROOF, put together: Am4.
-/
import Derived.Test.YtekpamojojfplaaGreatD03
import Derived.Maps.AppendAt
set_option linter.unusedVariables false
set_option linter.unusedSimpArgs false
namespace Go.Proofs.YtekpamojojfplaaGreat
open Go.RowKit
def OpR (P : Program) (o : Oper) (E : Env) (N : Nat) (σ : St) (R : AV → (Nat → Option Blk) → Nat → Prop) : Prop :=
  ∀ ρ a w, Inv E N ρ σ a w → ∀ (K : Act → World → Prop) (Q : Exit → Act → World → Prop),
    (∀ ρ' w' v H' nx', R v H' nx' → HInv E ρ' H' nx' w' → (∀ k, k < σ.nx → ρ' k = ρ k) → σ.nx ≤ nx' → (∀ k ∈ v.keys, k < nx') → K (a.put o.dst (v.conc ρ')) w') → o.wp P a w K Q
def det (v : AV) (H : Nat → Option Blk) (n : Nat) : AV → (Nat → Option Blk) → Nat → Prop := fun v' H' n' => v' = v ∧ H' = H ∧ n' = n
section
variable {P : Program} {tab : List (Nat × TD)} {E : Env} {N : Nat} {σ : St} {o : Oper} {c : Prop} {v : AV}
variable {R : AV → (Nat → Option Blk) → Nat → Prop}
theorem OpR.of_run (h : ∀ ρ a w, Inv E N ρ σ a w → ∃ ρ' w' v H' nx', (execOp a.eval o).run P w = .ok (.value (v.conc ρ')) w' ∧ R v H' nx' ∧ HInv E ρ' H' nx' w' ∧ (∀ k, k < σ.nx → ρ' k = ρ k) ∧ σ.nx ≤ nx' ∧ ∀ k ∈ v.keys, k < nx') : OpR P o E N σ R := by
  intro ρ a w hI K Q hK
  obtain ⟨ρ', w', v, H', nx', h1, h2, h3, h4, h5, h6⟩ := h ρ a w hI
  unfold Oper.wp
  rw [h1]
  exact hK ρ' w' v H' nx' h2 h3 h4 h5 h6
theorem OpR.of_skip (hd : o.dst = none) (h : ∀ ρ a w, Inv E N ρ σ a w → ∃ w' v H', (execOp a.eval o).run P w = .ok .skip w' ∧ R v H' σ.nx ∧ HInv E ρ H' σ.nx w' ∧ v.keys = []) : OpR P o E N σ R := by
  intro ρ a w hI K Q hK
  obtain ⟨w', v, H', h1, h2, h3, h4⟩ := h ρ a w hI
  unfold Oper.wp
  rw [h1]
  have := hK ρ w' v H' σ.nx h2 h3 (fun _ _ => rfl) (Nat.le_refl _) (by simp [h4])
  rw [Oper.upon_skip]
  rw [hd] at this ⊢
  exact this
theorem OpR.pure (hT : Tab P tab) (h : pstep tab σ.fr σ.H o.op = some (c, v)) (hc : c) : OpR P o E N σ (det v σ.H σ.nx) :=
  .of_run fun ρ a w hI => by
    obtain ⟨h1, h2⟩ := pstep_sound hT hI.f hI.h.hb h hc
    exact ⟨ρ, w, v, σ.H, σ.nx, h1, ⟨rfl, rfl, rfl⟩, hI.h, fun _ _ => rfl, Nat.le_refl _, h2⟩
theorem lit_own {ρ : Rho} {n : Nat} {w : World} {t : TypeId} {l : List SV} (h : ∀ k ∈ keysOf l, k < n) :
    BlkOK (setR ρ n (some (w.heap.size, 0))) n (w.alloc (.cells (cells ρ l).toArray t)) (.own t 1 (.lit l)) := by
  have hc : cells (setR ρ n (some (w.heap.size, 0))) l = cells ρ l := cells_congr fun k hk => setR_ne (Nat.ne_of_lt (h k hk))
  simp only [BlkOK, adr, setR_same, Option.map_some, Nat.add_zero, Elts.len, Elts.all, Elts.sz, hc]
  have := World.ownsRow_lit (base := 0) (e := t) (size := l.length) w (cells ρ l).toArray 1 (Nat.zero_le _) (by simp [maxLen]) (by simp [cells])
  simpa using this
def sBox (fr : Nat → Option AV) (H : Nat → Option Blk) (nx : Nat) (t : TypeId) (x : Operand) : Option (AV × (Nat → Option Blk)) := match ev fr x with
  | some u => match u.flat with
    | some l => some (.one (.ptr nx l.length 0 0), upd H nx (.own t 1 (.lit l)))
    | none => none
  | none => none
theorem sBox_sound {t : TypeId} {x : Operand} (ho : o.op = .box t x) {H' : Nat → Option Blk} (h : sBox σ.fr σ.H σ.nx t x = some (v, H')) : OpR P o E N σ (det v H' (σ.nx + 1)) :=
  .of_run fun ρ a w hI => by
    unfold sBox at h
    split at h
    · rename_i u hu
      split at h
      · rename_i l hl
        cases h
        obtain ⟨h1, h2⟩ := ev_sound hI.f hI.h.nil hI.h.hb.pos hu
        obtain ⟨h3, h4⟩ := AV.flat_sound (ρ := ρ) hl
        have hk : ∀ k ∈ keysOf l, k < σ.nx := fun k hk => h2 k (by rw [h4]; exact hk)
        refine ⟨setR ρ σ.nx (some (w.heap.size, 0)), w.alloc (.cells (cells ρ l).toArray t), _, _, σ.nx + 1, ?_, ⟨rfl, rfl, rfl⟩, hI.h.addPlain (World.grownBy_alloc w _ none) rfl (lit_own hk) hk, fun k hk => setR_ne (Nat.ne_of_lt hk), Nat.le_succ _, by simp [AV.keys, SV.keys]⟩
        have hr : (Instr.box t (a.eval x)).run P w = .ok (.pointer (some ⟨w.heap.size, 0, none⟩)) (w.alloc (.cells (cells ρ l).toArray t)) := by
          rw [h1]
          simp [Instr.box, newVar, h3, newRow]
        simp only [execOp, ho]
        rw [Sem.run_bind, hr]
        simp [AV.conc, SV.conc, adr, setR_same]
      · cases h
    · cases h
theorem zeroV_cells {t : TypeId} {d : TD} (hd : TOK P t d) {ρ : Rho} (h0 : ρ 0 = none) : d.zeroV.cells = (cells ρ d.zero).toArray := by
  rw [← zero_cells hd h0]
  have hl := hd.len
  have h1 := hd.one
  unfold TD.zeroV
  split
  · rfl
  · rfl
  · rename_i hk1 hk2
    have : d.size = 1 := by
      cases hk : d.kind with
      | sc => exact h1 (by rw [hk]; rfl)
      | sl e => exact h1 (by rw [hk]; rfl)
      | st fs => exact absurd hk (hk1 fs)
      | ar n e => exact absurd hk (hk2 n e)
    rw [this] at hl
    match hz : d.zero, hl with
    | [s], _ => simp [SV.cells_conc, cells]
def sAlloc (tab : List (Nat × TD)) (fr : Nat → Option AV) (H : Nat → Option Blk) (nx : Nat) (t : TypeId) : Option (AV × (Nat → Option Blk)) := match tget tab t with
  | some d => some (.one (.ptr nx d.size 0 0), upd H nx (.own t 1 (.lit d.zero)))
  | none => none
theorem sAlloc_sound (hT : Tab P tab) {t : TypeId} (ho : o.op = .alloc t) {H' : Nat → Option Blk} (h : sAlloc tab σ.fr σ.H σ.nx t = some (v, H')) : OpR P o E N σ (det v H' (σ.nx + 1)) :=
  .of_run fun ρ a w hI => by
    unfold sAlloc at h
    split at h
    · rename_i d hd
      cases h
      have hk : ∀ k ∈ keysOf d.zero, k < σ.nx := fun k hk => by rw [(hT.ok t d hd).zk k hk]; exact hI.h.hb.pos
      refine ⟨setR ρ σ.nx (some (w.heap.size, 0)), w.alloc (.cells (cells ρ d.zero).toArray t), _, _, σ.nx + 1, ?_, ⟨rfl, rfl, rfl⟩, hI.h.addPlain (World.grownBy_alloc w _ none) rfl (lit_own hk) hk, fun k hk => setR_ne (Nat.ne_of_lt hk), Nat.le_succ _, by simp [AV.keys, SV.keys]⟩
      have hr : (Instr.alloc t true (.tuple #[])).run P w = .ok (.pointer (some ⟨w.heap.size, 0, none⟩)) (w.alloc (.cells (cells ρ d.zero).toArray t)) := by
        simp [Instr.alloc, (hT.ok t d hd).run_zero, newVar, zeroV_cells (hT.ok t d hd) hI.h.nil, newRow]
      simp only [execOp, ho]
      rw [Sem.run_bind, hr]
      simp [AV.conc, SV.conc, adr, setR_same]
    · cases h
theorem SV.oneCell {ρ : Rho} {s : SV} : (s.conc ρ).oneCell' = true := by cases s <;> rfl
def sStore (tab : List (Nat × TD)) (fr : Nat → Option AV) (H : Nat → Option Blk) (nx : Nat) (t : TypeId) (x y : Operand) : Option (Prop × (Nat → Option Blk)) := match tget tab t, ev fr x, ev fr y with
  | some d, some (.one (.ptr k sz i f)), some u => match H k, u.flat with
    | some (.own tb cap e), some vs => match Nat.beq e.sz sz, Nat.beq vs.length d.size, e.set i f vs with
      | true, true, some e' => some (i < e.len, upd H k (.own tb cap e'))
      | _, _, _ => none
    | _, _ => none
  | _, _, _ => none
theorem own_store {ρ : Rho} {k : Nat} {w : World} {tb : TypeId} {cap i f : Nat} {e e' : Elts} {vs : List SV} {p : Nat × Nat} (h : BlkOK ρ k w (.own tb cap e)) (hp : ρ k = some p) (hs : e'.sz = e.sz ∧ e'.len = e.len ∧ f + vs.length ≤ e.sz ∧ e'.all = splice e.all (i * e.sz + f) vs) (hi : i < e.len) :
    ∃ w', (storeCells (⟨p.1, p.2 + (i * e.sz + f), none⟩ : Addr) (cells ρ vs)).run P w = .ok () w' ∧ BlkOK ρ k w' (.own tb cap e') ∧ w.grownBy w' (some p.1) := by
  obtain ⟨s1, s2, s3, s4⟩ := hs
  simp only [BlkOK] at h
  obtain ⟨hlen, h | ⟨g, cap', cur, hv, _, hg, hle, hmax, hcur, htake⟩⟩ := h
  · simp [adr, hp] at h
  · have hv2 : p.1 = g ∧ p.2 = 0 ∧ cap = cap' := by simpa [adr, hp, and_assoc] using hv
    obtain ⟨rfl, h0, rfl⟩ := hv2
    have hcl : (cells ρ e.all).length = e.len * e.sz := by simp [cells, Elts.all_len]
    have hmul : (i + 1) * e.sz ≤ e.len * e.sz := Nat.mul_le_mul_right _ hi
    rw [Nat.succ_mul] at hmul
    have hmul2 : e.len * e.sz ≤ cap * e.sz := Nat.mul_le_mul_right _ hle
    have hfit : i * e.sz + f + (cells ρ vs).length ≤ cur.size := by simp only [cells, List.length_map]; omega
    have hr := run_storeCells_at P p.1 (i * e.sz + f) tb (cells ρ vs) 0 cur w hg (by simpa using hfit) (fun v hv => by
      obtain ⟨s, _, rfl⟩ := List.mem_map.1 hv; exact SV.oneCell)
    simp only [Nat.add_zero] at hr
    rw [h0, Nat.zero_add]
    refine ⟨_, hr, ?_, ⟨rfl, rfl, rfl, by simp, fun k' _ hk' => setRow_other w p.1 k' _ (fun e => hk' (by rw [e]))⟩⟩
    simp only [BlkOK]
    refine ⟨by rw [s1, s2]; simp [cells, s4, splice_len (show i * e.sz + f + vs.length ≤ e.all.length by rw [Elts.all_len]; omega), Elts.all_len], .inr ⟨p.1, cap, _, by simp [adr, hp, h0, s2], Nat.zero_le _, setRow_heap w p.1 cur _ tb _ hg, by rw [s2]; exact hle, hmax, ?_, ?_⟩⟩
    · simp only [cells, List.length_map] at hfit
      simp only [List.size_toArray, List.length_append, List.length_take, List.length_drop, Array.length_toList, s1, cells, List.length_map]
      omega
    · rw [s1, s2, s4]
      simp only [splice, cells, List.map_append, List.map_take, List.map_drop]
      rw [show (e.all.map (SV.conc ρ)) = cur.toList.take (e.len * e.sz) from htake.symm]
      apply List.ext_getElem?
      intro n
      simp only [cells, List.length_map] at hfit
      rw [List.getElem?_take]
      have hct : cur.toList.length = cur.size := Array.length_toList
      by_cases hn : n < e.len * e.sz
      · rw [if_pos hn]
        by_cases c1 : n < i * e.sz + f
        · rw [List.append_assoc, List.getElem?_append_left (by simp; omega), List.append_assoc, List.getElem?_append_left (by simp; omega)]
          simp only [List.getElem?_take]
          rw [if_pos c1, if_pos c1, if_pos hn]
        · by_cases c2 : n < i * e.sz + f + vs.length
          · rw [List.append_assoc, List.getElem?_append_right (by simp; omega), List.getElem?_append_left (by simp; omega)]
            rw [List.append_assoc, List.getElem?_append_right (by simp; omega), List.getElem?_append_left (by simp; omega)]
            congr 1
            simp only [List.length_take]
            omega
          · rw [List.getElem?_append_right (by simp; omega), List.getElem?_append_right (by simp; omega)]
            simp only [List.length_append, List.length_take, List.length_map, List.getElem?_drop, List.getElem?_take]
            rw [if_pos (by omega)]
            congr 1
            omega
      · rw [if_neg hn]
        symm
        apply List.getElem?_eq_none
        simp only [List.length_append, List.length_take, List.length_map, List.length_drop]
        omega
theorem Elts.set_keys {e e' : Elts} {i f : Nat} {vs : List SV} (h : e.set i f vs = some e') (hi : i < e.len) {n : Nat} (h1 : ∀ k ∈ keysOf e.all, k < n) (h2 : ∀ k ∈ keysOf vs, k < n) : ∀ k ∈ e'.keys, k < n := by
  obtain ⟨_, _, _, s4⟩ := Elts.set_all h hi
  intro k hk
  obtain ⟨s, hs, hk⟩ := List.mem_flatMap.1 hk
  rw [s4] at hs
  simp only [splice, List.mem_append] at hs
  rcases hs with (hs | hs) | hs
  · exact h1 k (List.mem_flatMap.2 ⟨s, List.mem_of_mem_take hs, hk⟩)
  · exact h2 k (List.mem_flatMap.2 ⟨s, hs, hk⟩)
  · exact h1 k (List.mem_flatMap.2 ⟨s, List.mem_of_mem_drop hs, hk⟩)
theorem mem_set_get {α : Type} {l : List α} {i : Nat} {d x : α} {β : Type} {g : α → β} (hi : i < l.length) (hx : g x = g (l.getD i d)) : ∀ y ∈ (l.set i x).map g, y ∈ l.map g := fun y hy => by
  obtain ⟨z, hz, rfl⟩ := List.mem_map.1 hy
  rcases List.mem_or_eq_of_mem_set hz with h | rfl
  · exact List.mem_map.2 ⟨z, h, rfl⟩
  · rw [hx, List.getD_eq_getElem?_getD, List.getElem?_eq_getElem hi]
    exact List.mem_map.2 ⟨_, List.getElem_mem hi, rfl⟩
theorem Elts.set_rds {e e' : Elts} {i f : Nat} {vs : List SV} (h : e.set i f vs = some e') (hi : i < e.len) : ∀ x ∈ e'.rds, x ∈ e.rds := by
  cases e with
  | mats t l =>
    simp only [Elts.len] at hi
    unfold Elts.set at h
    split at h <;> first | contradiction | skip
    all_goals
      rename_i he
      cases he
      cases h
      cases t with
      | false => intro x hx; cases hx
      | true => exact mem_set_get (d := (0, 0, rowD)) (g := fun p : Int × Int × Row => (false, p.2.2)) hi rfl
  | lit l =>
    unfold Elts.set at h
    split at h <;> first | contradiction | skip
    split at h <;> first | contradiction | skip
    cases h; intro x hx; cases hx
  | _ =>
    unfold Elts.set at h
    split at h <;> first | contradiction | skip
    all_goals (cases h; intro x hx; cases hx)
theorem Far_sub {t : TypeId} {c c' : Nat} {e e' : Elts} (h : ∀ x ∈ e'.rds, x ∈ e.rds) {g : Nat} (hg : (Blk.own t c e').Far g) : (Blk.own t c' e).Far g := by
  obtain ⟨x, hx, h0, p, hp⟩ := hg
  exact ⟨x, h x hx, h0, p, hp⟩
theorem sStore_sound (hT : Tab P tab) {t : TypeId} {x y : Operand} (ho : o.op = .store t x y) (hd : o.dst = none) {H' : Nat → Option Blk} (h : sStore tab σ.fr σ.H σ.nx t x y = some (c, H')) (hc : c) : OpR P o E N σ (det (vI 0) H' σ.nx) :=
  .of_skip hd fun ρ a w hI => by
    unfold sStore at h
    split at h
    · rename_i d k sz i f u hd hx hy
      split at h
      · rename_i tb cap e vs hk hvs
        split at h
        · rename_i e' hsz hl hset
          have hsz := Nat.eq_of_beq_eq_true hsz
          have hl := Nat.eq_of_beq_eq_true hl
          cases h
          obtain ⟨h1, _⟩ := ev_sound hI.f hI.h.nil hI.h.hb.pos hx
          obtain ⟨h2, h2k⟩ := ev_sound hI.f hI.h.nil hI.h.hb.pos hy
          obtain ⟨h3, h4⟩ := AV.flat_sound (ρ := ρ) hvs
          have hb := hI.h.blk k _ hk
          obtain ⟨p, hp, _⟩ := hb.at_ (e := e) rfl (by omega)
          obtain ⟨w', hr, hb', hg⟩ := own_store (P := P) hb hp (Elts.set_all hset hc) hc
          refine ⟨w', vI 0, _, ?_, ⟨rfl, rfl, rfl⟩, hI.h.over hk hp hg hb' (Elts.set_keys hset hc (hI.h.key k _ hk).2 (fun k' hk' => h2k k' (by rw [h4]; exact hk'))) (fun x hx => hI.h.rows k _ hk x (Elts.set_rds hset hc x hx)) (fun k1 b1 q g h1 ho hq hf => hI.h.far k1 k b1 _ q g h1 hk ho hq (Far_sub (Elts.set_rds hset hc) hf)), rfl⟩
          have h1' : a.eval x = .pointer (some ⟨p.1, p.2 + (i * e.sz + f), none⟩) := by rw [h1]; simp [AV.conc, SV.conc, adr, hp, hsz]
          have hlen : (cells ρ vs).toArray.size = d.size := by simp [cells, hl]
          have hst : (Instr.storeAt t (a.eval x) (a.eval y)).run P w = .ok () w' := by
            rw [h1', h2]
            simp [Instr.storeAt, Instr.sureAddr, storeVar, h3, hlen, (hT.ok t d hd).run_size, hr]
          simp only [execOp, ho]
          rw [Sem.run_bind, hst]
          rfl
        · cases h
      · cases h
    · cases h
def pairs : List Int → Option (List (Int × Int))
  | [] => some []
  | a :: b :: r => match pairs r with
    | some l => some ((a, b) :: l)
    | none => none
  | _ => none
def triples : List Int → Option (List (Int × Int × Int))
  | [] => some []
  | a :: b :: c :: r => match triples r with
    | some l => some ((a, b, c) :: l)
    | none => none
  | _ => none
def eltsOf (sz : Nat) (l : List SV) : Option Elts := match sz, intsOf l with
  | 1, some m => some (.ints m)
  | 2, some m => match pairs m with
    | some q => some (.i2 q)
    | none => none
  | 3, some m => match triples m with
    | some q => some (.i3 q)
    | none => none
  | _, _ => none
theorem intsOf_map : ∀ {l : List SV} {m : List Int}, intsOf l = some m → l = m.map .int
  | [], m, h => by cases h; rfl
  | .int n :: r, m, h => by
    unfold intsOf at h
    cases hr : intsOf r with
    | none => rw [hr] at h; cases h
    | some m' =>
      rw [hr] at h
      cases h
      rw [intsOf_map hr]; rfl
  | .bool _ :: _, _, h => by simp [intsOf] at h
  | .sl .. :: _, _, h => by simp [intsOf] at h
  | .ptr .. :: _, _, h => by simp [intsOf] at h
  | .fn .. :: _, _, h => by simp [intsOf] at h
  | .u8 _ :: _, _, h => by simp [intsOf] at h
theorem pairs_all : ∀ {m : List Int} {q : List (Int × Int)}, pairs m = some q → q.flatMap sv2 = m.map .int
  | [], q, h => by cases h; rfl
  | [_], q, h => by cases h
  | a :: b :: r, q, h => by
    unfold pairs at h
    split at h
    · rename_i l hl
      cases h
      simp only [List.flatMap_cons, pairs_all hl]
      rfl
    · cases h
theorem triples_all : ∀ {m : List Int} {q : List (Int × Int × Int)}, triples m = some q → q.flatMap sv3 = m.map .int
  | [], q, h => by cases h; rfl
  | [_], q, h => by cases h
  | [_, _], q, h => by cases h
  | a :: b :: c :: r, q, h => by
    unfold triples at h
    split at h
    · rename_i l hl
      cases h
      simp only [List.flatMap_cons, triples_all hl]
      rfl
    · cases h
theorem eltsOf_sound {sz : Nat} {l : List SV} {e : Elts} (h : eltsOf sz l = some e) : e.all = l ∧ e.sz = sz ∧ 0 < sz := by
  unfold eltsOf at h
  split at h
  · rename_i m hm
    cases h
    exact ⟨(intsOf_map hm).symm, rfl, by decide⟩
  · rename_i m hm
    split at h
    · rename_i q hq
      cases h
      exact ⟨(pairs_all hq).trans (intsOf_map hm).symm, rfl, by decide⟩
    · cases h
  · rename_i m hm
    split at h
    · rename_i q hq
      cases h
      exact ⟨(triples_all hq).trans (intsOf_map hm).symm, rfl, by decide⟩
    · cases h
  · cases h
theorem row_own {ρ : Rho} {n : Nat} {w : World} {t : TypeId} {e : Elts} {cs : Array Value} {cap : Nat} (hk : ∀ k ∈ keysOf e.all, k < n) (hcap : e.len ≤ cap) (hmax : cap ≤ maxLen) (hcs : cs.size = cap * e.sz) (ht : cs.toList.take (e.len * e.sz) = cells ρ e.all) :
    BlkOK (setR ρ n (some (w.heap.size, 0))) n (w.alloc (.cells cs t)) (.own t cap e) := by
  have hc : cells (setR ρ n (some (w.heap.size, 0))) e.all = cells ρ e.all := cells_congr fun k h => setR_ne (Nat.ne_of_lt (hk k h))
  simp only [BlkOK, adr, setR_same, Option.map_some, Nat.add_zero, hc]
  exact ⟨by simp [cells, Elts.all_len], .inr ⟨w.heap.size, cap, cs, rfl, Nat.zero_le _, heap_alloc_new w _, hcap, hmax, hcs, ht⟩⟩
theorem int_keys {l : List SV} (h : ∀ s ∈ l, s.keys = []) : keysOf l = [] := by
  apply List.eq_nil_iff_forall_not_mem.2
  intro k hk
  obtain ⟨s, hs, hk⟩ := List.mem_flatMap.1 hk
  rw [h s hs] at hk; cases hk
theorem flatten_get {z : List Value} : ∀ (n j : Nat), j < n * z.length → (List.replicate n z).flatten[j]? = z[j % z.length]?
  | 0, j, h => by simp at h
  | n + 1, j, h => by
    rw [List.replicate_succ, List.flatten_cons]
    by_cases c : j < z.length
    · rw [List.getElem?_append_left c, Nat.mod_eq_of_lt c]
    · rw [List.getElem?_append_right (by omega), flatten_get n (j - z.length) (by rw [Nat.succ_mul] at h; omega)]
      congr 1
      rw [Nat.mod_eq_sub_mod (a := j) (by omega)]
theorem zero_cyc {z : List Value} (n : Nat) : ((Array.range (n * z.length)).map (z.toArray[· % z.toArray.size]!)) = (List.replicate n z).flatten.toArray := by
  apply Array.toList_inj.1
  apply List.ext_getElem?
  intro j
  have hlen : (List.replicate n z).flatten.length = n * z.length := by simp [List.length_flatten]
  by_cases hj : j < n * z.length
  · rw [show ((List.replicate n z).flatten.toArray.toList)[j]? = z[j % z.length]? from flatten_get n j hj]
    have hz : 0 < z.length := by
      rcases Nat.eq_zero_or_pos z.length with h | h
      · rw [h] at hj; omega
      · exact h
    have hm : j % z.length < z.length := Nat.mod_lt _ hz
    simp [hj, hm]
  · rw [List.getElem?_eq_none (by simp; omega), List.getElem?_eq_none (by simp [hlen]; omega)]
def sMake (tab : List (Nat × TD)) (fr : Nat → Option AV) (H : Nat → Option Blk) (nx : Nat) (t : TypeId) (x y : Operand) : Option (Prop × AV × (Nat → Option Blk)) := match tget tab t, ev fr x, ev fr y with
  | some d, some (.one (.int n)), some (.one (.int m)) => match d.kind with
    | .sl et => match tget tab et with
      | some d' => match d'.size, d'.zero, Nat.ble d'.bytes 16 with
        | 1, [.int 0], true => some (n = m ∧ 0 ≤ n ∧ n ≤ 1099511627776, .one (.sl nx 1 0 n.toNat n.toNat), upd H nx (.own et n.toNat (.ints (List.replicate n.toNat 0))))
        | 2, [.int 0, .int 0], true => some (n = m ∧ 0 ≤ n ∧ n ≤ 1099511627776, .one (.sl nx 2 0 n.toNat n.toNat), upd H nx (.own et n.toNat (.i2 (List.replicate n.toNat (0, 0)))))
        | _, _, _ => none
      | none => none
    | _ => none
  | _, _, _ => none
theorem make_core (hT : Tab P tab) {t : TypeId} {x y : Operand} (ho : o.op = .makeSlice t x y) {d d' : TD} {et : TypeId} {n : Int} {e : Elts} (hd : tget tab t = some d) (hx : ev σ.fr x = some (.one (.int n))) (hy : ev σ.fr y = some (.one (.int n))) (hk : d.kind = .sl et) (hd' : tget tab et = some d')
    (hby : d'.bytes ≤ 16) (c1 : 0 ≤ n) (c2 : n ≤ 1099511627776) (he : e.all = (List.replicate n.toNat d'.zero).flatten) (hlen : e.len = n.toNat) (hsz : e.sz = d'.size) (hzl : d'.zero.length = d'.size) (hkeys : keysOf e.all = []) (hrd : e.rds = []) :
    OpR P o E N σ (det (.one (.sl σ.nx d'.size 0 n.toNat n.toNat)) (upd σ.H σ.nx (.own et n.toNat e)) (σ.nx + 1)) :=
  .of_run fun ρ a w hI => by
    obtain ⟨h1, _⟩ := ev_sound hI.f hI.h.nil hI.h.hb.pos hx
    obtain ⟨h2, _⟩ := ev_sound hI.f hI.h.nil hI.h.hb.pos hy
    have h1' : a.eval x = .int .i64 n := h1
    have h2' : a.eval y = .int .i64 n := h2
    obtain ⟨i, hi, hiz, his, hib⟩ := (hT.ok et d' hd').infoE
    have hzc := zeroV_cells (hT.ok et d' hd') hI.h.nil
    have hbb : (i.bytes : Int) * n ≤ 281474976710656 := by
      have : (i.bytes : Int) ≤ 16 := by omega
      calc (i.bytes : Int) * n ≤ 16 * n := Int.mul_le_mul_of_nonneg_right this c1
        _ ≤ _ := by omega
    have hr := run_make (P := P) w t et i d'.zeroV ((hT.ok t d hd).slice hk) hi hiz .i64 .i64 n n c1 (Int.le_refl _) hbb (by omega)
    have hcl : (cells ρ d'.zero).length = d'.size := by simp [cells, hzl]
    have hm : madeCells (cells ρ d'.zero).toArray (n.toNat * d'.size) = (cells ρ e.all).toArray := by
      have := zero_cyc (z := cells ρ d'.zero) n.toNat
      rw [hcl] at this
      rw [madeCells, this, he]
      simp [cells, List.map_flatten]
    rw [his, hzc, hm] at hr
    have hall := Elts.all_len e
    rw [hlen, hsz] at hall
    refine ⟨setR ρ σ.nx (some (w.heap.size, 0)), _, _, _, σ.nx + 1, ?_, ⟨rfl, rfl, rfl⟩, hI.h.addPlain (World.grownBy_alloc w _ none) hrd (row_own (cs := (cells ρ e.all).toArray) ?_ ?_ ?_ ?_ ?_) ?_, fun k hk => setR_ne (Nat.ne_of_lt hk), Nat.le_succ _, by simp [AV.keys, SV.keys]⟩
    · simp only [execOp, ho, h1', h2']
      rw [Sem.run_bind, hr]
      simp [AV.conc, SV.conc, adr, setR_same]
    · rw [hkeys]; simp
    · omega
    · simp only [maxLen]; omega
    · simp [cells, hall, hsz]
    · rw [List.take_of_length_le (by simp [cells, hall, hlen, hsz])]
    · simp [Blk.keys, Elts.keys, hkeys]
theorem sMake_sound (hT : Tab P tab) {t : TypeId} {x y : Operand} (ho : o.op = .makeSlice t x y) {H' : Nat → Option Blk} (h : sMake tab σ.fr σ.H σ.nx t x y = some (c, v, H')) (hc : c) : OpR P o E N σ (det v H' (σ.nx + 1)) := by
  unfold sMake at h
  split at h
  · rename_i d n m hd hx hy
    split at h
    · rename_i et hk
      split at h
      · rename_i d' hd'
        split at h
        · rename_i hs hz hby
          cases h
          obtain ⟨rfl, c1, c2⟩ := hc
          have := make_core (E := E) (N := N) hT ho hd hx hy hk hd' (Nat.le_of_ble_eq_true hby) c1 c2 (e := .ints (List.replicate n.toNat 0)) (by rw [hz]; simp [Elts.all]) (by simp [Elts.len]) hs.symm (by rw [hz, hs]; rfl) (int_keys fun s hs => by simp only [Elts.all, List.mem_map] at hs; obtain ⟨_, _, rfl⟩ := hs; rfl) rfl
          rw [hs] at this
          exact this
        · rename_i hs hz hby
          cases h
          obtain ⟨rfl, c1, c2⟩ := hc
          have := make_core (E := E) (N := N) hT ho hd hx hy hk hd' (Nat.le_of_ble_eq_true hby) c1 c2 (e := .i2 (List.replicate n.toNat (0, 0))) (by rw [hz]; simp [Elts.all, List.flatMap, sv2]) (by simp [Elts.len]) hs.symm (by rw [hz, hs]; rfl) (int_keys fun s hs => by simp only [Elts.all, List.mem_flatMap, sv2] at hs; obtain ⟨p, _, hp⟩ := hs; simp only [List.mem_cons, List.not_mem_nil, or_false] at hp; rcases hp with rfl | rfl <;> rfl) rfl
          rw [hs] at this
          exact this
        · cases h
      · cases h
    · cases h
  · cases h
def sBuildSlice (tab : List (Nat × TD)) (fr : Nat → Option AV) (H : Nat → Option Blk) (nx : Nat) (t : TypeId) (len : Nat) (parts : Array (Nat × Operand)) : Option (AV × (Nat → Option Blk)) := match tget tab t, evParts fr parts.toList with
  | some d, some ps => match d.kind with
    | .sl et => match tget tab et with
      | some d' => match fillA (fun i => some (i * d'.size, d'.size)) (List.replicate len d'.zero).flatten ps, Nat.ble (len * d'.size) 16777216, intsOf d'.zero with
        | some l, true, some _ => match eltsOf d'.size l with
          | some e => match Nat.beq e.len len with
            | true => some (.one (.sl nx d'.size 0 len len), upd H nx (.own et len e))
            | false => none
          | none => none
        | _, _, _ => none
      | none => none
    | _ => none
  | _, _ => none
def rowOf (H : Nat → Option Blk) (q : Bool) : SV → Option (Prop × Row)
  | .sl k sz off len cap => match H k with
    | some (.al a (.ints xs)) => match q, sz with
      | false, 1 => some (off = 0 ∧ len = xs.length, ⟨a, cap, xs, []⟩)
      | _, _ => none
    | some (.al a (.i2 ps)) => match q, sz with
      | true, 2 => some (off = 0 ∧ len = ps.length, ⟨a, cap, [], ps⟩)
      | _, _ => none
    | _ => none
  | _ => none
def rowsOf (H : Nat → Option Blk) (q : Bool) : List SV → Option (Prop × List Row)
  | [] => some (True, [])
  | s :: r => match rowOf H q s, rowsOf H q r with
    | some (c, x), some (c', l) => some (c ∧ c', x :: l)
    | _, _ => none
def valsOf (H : Nat → Option Blk) : List SV → Option (Prop × List (Row × Int))
  | [] => some (True, [])
  | s :: .int n :: r => match rowOf H false s, valsOf H r with
    | some (c, x), some (c', l) => some (c ∧ c', (x, n) :: l)
    | _, _ => none
  | _ => none
def matsOf (H : Nat → Option Blk) : List SV → Option (Prop × List (Int × Int × Row))
  | [] => some (True, [])
  | .int n :: .int m :: s :: r => match rowOf H false s, matsOf H r with
    | some (c, x), some (c', l) => some (c ∧ c', (n, m, x) :: l)
    | _, _ => none
  | _ => none
def recsOf (H : Nat → Option Blk) (zero l : List SV) : Option (Prop × Elts) := match zero with
  | [.sl 0 1 0 0 0] => match rowsOf H false l with
    | some (c, rs) => some (c, .rows false true rs)
    | none => none
  | [.sl 0 2 0 0 0] => match rowsOf H true l with
    | some (c, rs) => some (c, .rows true true rs)
    | none => none
  | [.sl 0 1 0 0 0, .int 0] => match valsOf H l with
    | some (c, rs) => some (c, .vals true rs)
    | none => none
  | [.int 0, .int 0, .sl 0 1 0 0 0] => match matsOf H l with
    | some (c, rs) => some (c, .mats true rs)
    | none => none
  | _ => none
def Row.elts (q : Bool) (r : Row) : Elts := match q with
  | false => .ints r.xs
  | true => .i2 r.ps
structure RecsOK (ρ : Rho) (H : Nat → Option Blk) (w : World) (l : List SV) (e : Elts) : Prop where
  conc : cells ρ e.all = cells ρ l
  keys : keysOf e.all = []
  al : ∀ x ∈ e.rds, ∃ k, H k = some (.al x.2.a (x.2.elts x.1))
theorem rowOf_sound {ρ : Rho} {H : Nat → Option Blk} {nx : Nat} {w : World} (hB : HB ρ H nx w) {q : Bool} {s : SV} {c : Prop} {r : Row} (h : rowOf H q s = some (c, r)) (hc : c) :
    (r.hd q).conc ρ = s.conc ρ ∧ ∃ k, H k = some (.al r.a (r.elts q)) := by
  unfold rowOf at h
  split at h
  · rename_i k sz off len cap
    split at h
    · rename_i a xs hk
      split at h
      · cases h
        obtain ⟨rfl, rfl⟩ := hc
        have := hB.blk k _ hk
        simp only [BlkOK] at this
        refine ⟨?_, k, hk⟩
        simp [Row.hd_eq, SV.conc, Row.len, adr, this.1]
      · cases h
    · rename_i a xs hk
      split at h
      · cases h
        obtain ⟨rfl, rfl⟩ := hc
        have := hB.blk k _ hk
        simp only [BlkOK] at this
        refine ⟨?_, k, hk⟩
        simp [Row.hd_eq, SV.conc, Row.len, adr, this.1]
      · cases h
    · cases h
  · cases h
theorem rowsOf_sound {ρ : Rho} {H : Nat → Option Blk} {nx : Nat} {w : World} (hB : HB ρ H nx w) {q : Bool} : ∀ {l : List SV} {c : Prop} {rs : List Row}, rowsOf H q l = some (c, rs) → c →
    cells ρ (rs.flatMap (svR q)) = cells ρ l ∧ (∀ r ∈ rs, ∃ k, H k = some (.al r.a (r.elts q)))
  | [], c, rs, h, _ => by cases h; simp
  | s :: l, c, rs, h, hc => by
    unfold rowsOf at h
    split at h
    · rename_i c1 x c2 l' h1 h2
      cases h
      obtain ⟨a1, a2⟩ := rowOf_sound hB h1 hc.1
      obtain ⟨b1, b2⟩ := rowsOf_sound hB h2 hc.2
      refine ⟨?_, fun r hr => ?_⟩
      · simp only [cells, List.flatMap_cons, List.map_append, List.map_cons] at b1 ⊢
        rw [b1]; simp [svR, a1]
      · rcases List.mem_cons.1 hr with rfl | hr
        · exact a2
        · exact b2 r hr
    · cases h
theorem valsOf_sound {ρ : Rho} {H : Nat → Option Blk} {nx : Nat} {w : World} (hB : HB ρ H nx w) : ∀ {l : List SV} {c : Prop} {rs : List (Row × Int)}, valsOf H l = some (c, rs) → c →
    cells ρ (rs.flatMap svV) = cells ρ l ∧ (∀ r ∈ rs, ∃ k, H k = some (.al r.1.a (r.1.elts false)))
  | [], c, rs, h, _ => by cases h; simp
  | [_], c, rs, h, _ => by simp [valsOf] at h
  | s :: .int n :: l, c, rs, h, hc => by
    unfold valsOf at h
    split at h
    · rename_i c1 x c2 l' h1 h2
      cases h
      obtain ⟨a1, a2⟩ := rowOf_sound hB h1 hc.1
      obtain ⟨b1, b2⟩ := valsOf_sound hB h2 hc.2
      refine ⟨?_, fun r hr => ?_⟩
      · simp only [cells, List.flatMap_cons, List.map_append, List.map_cons] at b1 ⊢
        rw [b1]; simp [svV, a1]
      · rcases List.mem_cons.1 hr with rfl | hr
        · exact a2
        · exact b2 r hr
    · cases h
  | s :: .bool _ :: l, c, rs, h, _ => by simp [valsOf] at h
  | s :: .sl .. :: l, c, rs, h, _ => by simp [valsOf] at h
  | s :: .ptr .. :: l, c, rs, h, _ => by simp [valsOf] at h
  | s :: .fn .. :: l, c, rs, h, _ => by simp [valsOf] at h
  | s :: .u8 _ :: l, c, rs, h, _ => by simp [valsOf] at h
  | s :: .hd .. :: l, c, rs, h, _ => by simp [valsOf] at h
theorem matsOf_sound {ρ : Rho} {H : Nat → Option Blk} {nx : Nat} {w : World} (hB : HB ρ H nx w) : ∀ {l : List SV} {c : Prop} {rs : List (Int × Int × Row)}, matsOf H l = some (c, rs) → c →
    cells ρ (rs.flatMap svM) = cells ρ l ∧ (∀ r ∈ rs, ∃ k, H k = some (.al r.2.2.a (r.2.2.elts false)))
  | l, c, rs, h, hc => by
    unfold matsOf at h
    split at h
    · cases h; simp
    · rename_i n m s l
      split at h
      · rename_i c1 x c2 l' h1 h2
        cases h
        obtain ⟨a1, a2⟩ := rowOf_sound hB h1 hc.1
        obtain ⟨b1, b2⟩ := matsOf_sound hB h2 hc.2
        refine ⟨?_, fun r hr => ?_⟩
        · simp only [cells, List.flatMap_cons, List.map_append, List.map_cons] at b1 ⊢
          rw [b1]; simp [svM, a1]
        · rcases List.mem_cons.1 hr with rfl | hr
          · exact a2
          · exact b2 r hr
      · cases h
    · cases h
theorem rows_keys {q : Bool} {l : List Row} : keysOf (l.flatMap (svR q)) = [] := by
  apply List.eq_nil_iff_forall_not_mem.2
  intro k hk
  obtain ⟨s, hs, hk⟩ := List.mem_flatMap.1 hk
  obtain ⟨p, _, hp⟩ := List.mem_flatMap.1 hs
  simp only [svR, List.mem_singleton] at hp
  subst hp
  rw [Row.hd_eq] at hk
  cases hk
theorem vals_keys {l : List (Row × Int)} : keysOf (l.flatMap svV) = [] := by
  apply List.eq_nil_iff_forall_not_mem.2
  intro k hk
  obtain ⟨s, hs, hk⟩ := List.mem_flatMap.1 hk
  obtain ⟨p, _, hp⟩ := List.mem_flatMap.1 hs
  simp [svV] at hp
  rcases hp with rfl | rfl <;> cases hk
theorem mats_keys {l : List (Int × Int × Row)} : keysOf (l.flatMap svM) = [] := by
  apply List.eq_nil_iff_forall_not_mem.2
  intro k hk
  obtain ⟨s, hs, hk⟩ := List.mem_flatMap.1 hk
  obtain ⟨p, _, hp⟩ := List.mem_flatMap.1 hs
  simp [svM] at hp
  rcases hp with rfl | rfl | rfl <;> cases hk
theorem recsOf_sound {ρ : Rho} {H : Nat → Option Blk} {nx : Nat} {w : World} (hB : HB ρ H nx w) {zero l : List SV} {c : Prop} {e : Elts} (h : recsOf H zero l = some (c, e)) (hc : c) : RecsOK ρ H w l e ∧ e.sz = zero.length ∧ 0 < e.sz := by
  unfold recsOf at h
  split at h
  · split at h
    · rename_i rs hr
      cases h
      obtain ⟨a1, a2⟩ := rowsOf_sound hB hr hc
      refine ⟨⟨a1, rows_keys, fun x hx => ?_⟩, rfl, Nat.succ_pos _⟩
      obtain ⟨r, hr', rfl⟩ := List.mem_map.1 hx
      exact a2 r hr'
    · cases h
  · split at h
    · rename_i rs hr
      cases h
      obtain ⟨a1, a2⟩ := rowsOf_sound hB hr hc
      refine ⟨⟨a1, rows_keys, fun x hx => ?_⟩, rfl, Nat.succ_pos _⟩
      obtain ⟨r, hr', rfl⟩ := List.mem_map.1 hx
      exact a2 r hr'
    · cases h
  · split at h
    · rename_i rs hr
      cases h
      obtain ⟨a1, a2⟩ := valsOf_sound hB hr hc
      refine ⟨⟨a1, vals_keys, fun x hx => ?_⟩, rfl, Nat.succ_pos _⟩
      obtain ⟨r, hr', rfl⟩ := List.mem_map.1 hx
      exact a2 r hr'
    · cases h
  · split at h
    · rename_i rs hr
      cases h
      obtain ⟨a1, a2⟩ := matsOf_sound hB hr hc
      refine ⟨⟨a1, mats_keys, fun x hx => ?_⟩, rfl, Nat.succ_pos _⟩
      obtain ⟨r, hr', rfl⟩ := List.mem_map.1 hx
      exact a2 r hr'
    · cases h
  · cases h
theorem Row.svs_keys (q : Bool) (r : Row) : ∀ s ∈ r.svs q, s.keys = [] := fun s hs => by
  cases q with
  | false => simp [Row.svs] at hs; obtain ⟨n, _, rfl⟩ := hs; rfl
  | true =>
    simp [Row.svs, sv2] at hs
    obtain ⟨a, b, _, rfl | rfl⟩ := hs <;> rfl
theorem Row.elts_all (q : Bool) (r : Row) : (r.elts q).all = r.svs q := by cases q <;> rfl
theorem Row.elts_len (q : Bool) (r : Row) : (r.elts q).len = r.len q := by cases q <;> rfl
theorem Row.elts_rds (q : Bool) (r : Row) : (r.elts q).rds = [] := by cases q <;> rfl
theorem Row.elts_sz (q : Bool) (r : Row) : (r.elts q).sz = Row.sz q := by cases q <;> rfl
theorem noKeys_conc {s : SV} (h : s.keys = []) (ρ ρ' : Rho) : s.conc ρ = s.conc ρ' := SV.conc_congr fun k hk => by rw [h] at hk; cases hk
theorem al_rowAt {ρ : Rho} {k : Nat} {w : World} {q : Bool} {r : Row} (h : BlkOK ρ k w (.al r.a (r.elts q))) : RowAt w q r := by
  simp only [BlkOK, Row.elts_all, Row.elts_len] at h
  obtain ⟨h1, h2⟩ := h
  unfold RowAt
  rw [h1] at h2
  cases hp : r.a with
  | none => rw [hp] at h2; exact h2
  | some p =>
    rw [hp] at h2
    refine ⟨h2.1, fun j u hu => ?_⟩
    rw [h2.2 j u hu, noKeys_conc (Row.svs_keys q r u (List.mem_of_getElem? hu)) ρ noRho]
theorem rowAt_al {ρ : Rho} {k : Nat} {w : World} {q : Bool} {r : Row} (hk : ρ k = r.a) (h : RowAt w q r) : BlkOK ρ k w (.al r.a (r.elts q)) := by
  simp only [BlkOK, Row.elts_all, Row.elts_len]
  unfold RowAt at h
  rw [hk]
  refine ⟨rfl, ?_⟩
  cases hp : r.a with
  | none => rw [hp] at h; exact h
  | some p =>
    rw [hp] at h
    refine ⟨h.1, fun j u hu => ?_⟩
    rw [h.2 j u hu, noKeys_conc (Row.svs_keys q r u (List.mem_of_getElem? hu)) ρ noRho]
theorem al_live {a : Option (Nat × Nat)} {q : Bool} {r : Row} (h : 0 < r.len q) : (Blk.al a (r.elts q)).live = true := by
  simp only [Blk.live, Row.elts_len, Bool.not_eq_true']; exact nbeq_ne (by omega)
theorem buildSlice_core (hT : Tab P tab) {t : TypeId} {len : Nat} {parts : Array (Nat × Operand)} (ho : o.op = .buildSlice t len parts) {d d' : TD} {et : TypeId} {ps : List (Nat × List SV)} {l : List SV} {e : Elts} (hd : tget tab t = some d) (hps : evParts σ.fr parts.toList = some ps) (hk : d.kind = .sl et) (hd' : tget tab et = some d')
    (hl : fillA (fun i => some (i * d'.size, d'.size)) (List.replicate len d'.zero).flatten ps = some l) (hbig : Nat.ble (len * d'.size) 16777216 = true) (hlen : Nat.beq e.len len = true) (hsz : e.sz = d'.size ∧ 0 < d'.size)
    (hrec : ∀ ρ w, HInv E ρ σ.H σ.nx w → cells ρ e.all = cells ρ l ∧ (∀ k ∈ keysOf e.all, k ∈ keysOf l) ∧ ∀ x ∈ e.rds, ∃ k, σ.H k = some (.al x.2.a (x.2.elts x.1))) :
    OpR P o E N σ (det (.one (.sl σ.nx d'.size 0 len len)) (upd σ.H σ.nx (.own et len e)) (σ.nx + 1)) :=
  .of_run fun ρ a w hI => by
    have hbig := Nat.le_of_ble_eq_true hbig
    have hlen := Nat.eq_of_beq_eq_true hlen
    obtain ⟨e1, ek, eal⟩ := hrec ρ w hI.h
    obtain ⟨h1, h2⟩ := evParts_sound hI.f hI.h.hb hps
    have hz : ∀ k ∈ keysOf (List.replicate len d'.zero).flatten, k < σ.nx := fun k hk => by
      obtain ⟨s, hs, hk⟩ := List.mem_flatMap.1 hk
      simp at hs
      obtain ⟨m, ⟨_, rfl⟩, hs⟩ := hs
      rw [(hT.ok et d' hd').zk k (List.mem_flatMap.2 ⟨s, hs, hk⟩)]; exact hI.h.hb.pos
    obtain ⟨hll, hlk⟩ := fillA_keys ps _ _ hl hz h2
    have hek : ∀ k ∈ keysOf e.all, k < σ.nx := fun k hk => hlk k (ek k hk)
    have hcl : (cells ρ l).length = e.len * e.sz := by rw [← e1]; simp [cells, Elts.all_len]
    obtain ⟨i, hi, hiz, his, hib⟩ := (hT.ok et d' hd').infoE
    have hzc := zeroV_cells (hT.ok et d' hd') hI.h.nil
    have hpar : (parts.map fun p => (p.1, a.eval p.2)).toList = parts.toList.map fun p => (p.1, a.eval p.2) := by simp
    have hzl : d'.zero.length = d'.size := (hT.ok et d' hd').len
    have hr : (Instr.buildSlice t len (parts.map fun p => (p.1, a.eval p.2))).run P w = .ok (.slice (some ⟨w.heap.size, 0, none⟩) len len) (w.alloc (.cells (cells ρ l).toArray et)) := by
      have hf : Instr.fill (fun i => some (i * d'.size, d'.size)) ((Array.range (len * d'.size)).map ((cells ρ d'.zero).toArray[· % (cells ρ d'.zero).toArray.size]!)) (parts.map fun p => (p.1, a.eval p.2)).toList = some (cells ρ l).toArray := by
        rw [hpar]
        have := zero_cyc (z := cells ρ d'.zero) len
        rw [show (cells ρ d'.zero).length = d'.size by simp [cells, hzl]] at this
        rw [this]
        have e3 : (List.replicate len (cells ρ d'.zero)).flatten = cells ρ (List.replicate len d'.zero).flatten := by simp [cells, List.map_flatten]
        rw [e3]
        exact fill_sound (fun i => rfl) ps _ _ _ h1 hl
      by_cases h0 : len * d'.size = 0
      · have hle : l = [] := by
          apply List.eq_nil_of_length_eq_zero
          rw [hll]; simp [List.length_flatten, hzl, h0]
        have hr0 : (Array.range (len * d'.size)).map ((cells ρ d'.zero).toArray[· % (cells ρ d'.zero).toArray.size]!) = #[] := by rw [h0]; simp
        rw [hr0] at hf
        simp only [hle] at hf ⊢
        simp only [Array.toList_map] at hf
        simp [Instr.buildSlice, run_underlying ((hT.ok t d hd).slice hk), sizeOf, typeInfo, hi, his, h0, newRow, Array.range_zero', hf]
      · refine run_buildSlice w t et len _ _ i d'.zeroV ((hT.ok t d hd).slice hk) hi hiz (by rw [his]; omega) (by rw [his]; exact h0) ?_
        rw [his, hzc]; exact hf
    have hfarE : ∀ g, (Blk.own et len e).Far g → ∃ k, ∃ x : Bool × Row, σ.H k = some (.al x.2.a (x.2.elts x.1)) ∧ 0 < x.2.len x.1 ∧ ∃ p, x.2.a = some p ∧ p.1 = g := fun g ⟨x, hx, h0, p, hp, hg⟩ => by
      obtain ⟨k, hk⟩ := eal x hx
      exact ⟨k, x, hk, h0, p, hp, hg⟩
    refine ⟨setR ρ σ.nx (some (w.heap.size, 0)), w.alloc (.cells (cells ρ l).toArray et), _, _, σ.nx + 1, ?_, ⟨rfl, rfl, rfl⟩, hI.h.addNew (World.grownBy_alloc w _ none) (fun x hx => ?_) (fun k b' p' g hk ho hp' hf => ?_) (fun g hf => ?_) (row_own (cs := (cells ρ l).toArray) ?_ ?_ ?_ ?_ ?_) ?_, fun k hk => setR_ne (Nat.ne_of_lt hk), Nat.le_succ _, by simp [AV.keys, SV.keys]⟩
    · simp only [execOp, ho]
      rw [show (parts.map fun x => match x with | (i, x) => (i, a.eval x)) = parts.map fun p => (p.1, a.eval p.2) from rfl, Sem.run_bind, hr]
      simp [AV.conc, SV.conc, adr, setR_same]
    · obtain ⟨k, hk⟩ := eal x hx
      exact (al_rowAt (hI.h.blk k _ hk)).grown (World.grownBy_alloc w _ none) fun _ _ _ e => by cases e
    · obtain ⟨k2, x, hk2, h0, p, hp, hg⟩ := hfarE g hf
      have hb2 := hI.h.blk k2 _ hk2
      simp only [BlkOK] at hb2
      rw [← hg]
      exact hI.h.inj k k2 b' _ p' p hk hk2 ho (al_live h0) (fun e => by subst e; rw [hk] at hk2; cases hk2; cases ho) hp' (hb2.1.trans hp)
    · obtain ⟨k2, x, hk2, h0, p, hp, hg⟩ := hfarE g hf
      have hb2 := hI.h.blk k2 _ hk2
      rw [← hg]
      exact hb2.lt (al_live h0) ((by simp only [BlkOK] at hb2; exact hb2.1 : ρ k2 = x.2.a).trans hp)
    · exact hek
    · omega
    · have : len * 1 ≤ len * d'.size := Nat.mul_le_mul_left _ hsz.2
      simp only [maxLen]; omega
    · simp only [List.size_toArray, hcl, hlen]
    · rw [e1]
      exact List.take_of_length_le (by simp [hcl])
    · exact hek
theorem eltsOf_rds {sz : Nat} {l : List SV} {e : Elts} (h : eltsOf sz l = some e) : e.rds = [] := by
  unfold eltsOf at h
  split at h
  · cases h; rfl
  · split at h <;> cases h; rfl
  · split at h <;> cases h; rfl
  · cases h
theorem sBuildSlice_sound (hT : Tab P tab) {t : TypeId} {len : Nat} {parts : Array (Nat × Operand)} (ho : o.op = .buildSlice t len parts) {H' : Nat → Option Blk} (h : sBuildSlice tab σ.fr σ.H σ.nx t len parts = some (v, H')) : OpR P o E N σ (det v H' (σ.nx + 1)) := by
  unfold sBuildSlice at h
  split at h
  · rename_i d ps hd hps
    split at h
    · rename_i et hk
      split at h
      · rename_i d' hd'
        split at h
        · rename_i l _ hl hbig _
          split at h
          · rename_i e he
            split at h
            · rename_i hlen
              cases h
              obtain ⟨e1, e2, hsz⟩ := eltsOf_sound he
              exact buildSlice_core hT ho hd hps hk hd' hl hbig hlen ⟨e2, hsz⟩ fun ρ w _ => ⟨by rw [e1], fun k hk => by rw [e1] at hk; exact hk, fun x hx => by rw [eltsOf_rds he] at hx; cases hx⟩
            · cases h
          · cases h
        · cases h
      · cases h
    · cases h
  · cases h
def sBuildRows (tab : List (Nat × TD)) (fr : Nat → Option AV) (H : Nat → Option Blk) (nx : Nat) (t : TypeId) (len : Nat) (parts : Array (Nat × Operand)) : Option (Prop × AV × (Nat → Option Blk)) := match tget tab t, evParts fr parts.toList with
  | some d, some ps => match d.kind with
    | .sl et => match tget tab et with
      | some d' => match fillA (fun i => some (i * d'.size, d'.size)) (List.replicate len d'.zero).flatten ps, Nat.ble (len * d'.size) 16777216 with
        | some l, true => match recsOf H d'.zero l with
          | some (c, e) => match Nat.beq e.len len, Nat.beq d'.zero.length d'.size with
            | true, true => some (c, .one (.sl nx d'.size 0 len len), upd H nx (.own et len e))
            | _, _ => none
          | none => none
        | _, _ => none
      | none => none
    | _ => none
  | _, _ => none
theorem sBuildRows_sound (hT : Tab P tab) {t : TypeId} {len : Nat} {parts : Array (Nat × Operand)} (ho : o.op = .buildSlice t len parts) {H' : Nat → Option Blk} (h : sBuildRows tab σ.fr σ.H σ.nx t len parts = some (c, v, H')) (hc : c) : OpR P o E N σ (det v H' (σ.nx + 1)) := by
  unfold sBuildRows at h
  split at h
  · rename_i d ps hd hps
    split at h
    · rename_i et hk
      split at h
      · rename_i d' hd'
        split at h
        · rename_i l hl hbig
          split at h
          · rename_i c' e he
            split at h
            · rename_i hlen hz
              have hz := Nat.eq_of_beq_eq_true hz
              cases h
              intro ρ a w hI
              obtain ⟨_, s1, s2⟩ := recsOf_sound hI.h.hb he hc
              rw [hz] at s1
              exact buildSlice_core hT ho hd hps hk hd' hl hbig hlen ⟨s1, by omega⟩ (fun ρ w h => by
                obtain ⟨r, _, _⟩ := recsOf_sound h.hb he hc
                exact ⟨r.conc, (fun k hk => by rw [r.keys] at hk; cases hk), r.al⟩) ρ a w hI
            · cases h
          · cases h
        · cases h
      · cases h
    · cases h
  · cases h
def SV.ali (n sz : Nat) : SV → SV
  | .hd _ len cap => .sl n sz 0 len cap
  | s => s
def AV.ali (n sz : Nat) : AV → AV
  | .one s => .one (s.ali n sz)
  | .agg l => .agg (l.map (SV.ali n sz))
  | .tup l => .tup l
def Elts.rowAt : Elts → Nat → Option (Bool × Row)
  | .rows q true l, i => some (q, l.getD i rowD)
  | .vals true l, i => some (false, (l.getD i (rowD, 0)).1)
  | .mats true l, i => some (false, (l.getD i (0, 0, rowD)).2.2)
  | _, _ => none
def sLoadC (tab : List (Nat × TD)) (fr : Nat → Option AV) (H : Nat → Option Blk) (nx : Nat) (t : TypeId) (x : Operand) : Option (Prop × AV × (Nat → Option Blk)) := match tget tab t, ev fr x with
  | some d, some (.one (.ptr k sz i f)) => match eltsAt H k with
    | some e => match Nat.beq e.sz sz, pPart (e.get i) f d, e.rowAt i with
      | true, some v, some (q, r) => match v.told with
        | true => some (i < e.len, v.ali nx (Row.sz q), upd H nx (.al r.a (r.elts q)))
        | false => none
      | _, _, _ => none
    | none => none
  | _, _ => none
theorem getD_mem' {α : Type} {l : List α} {i : Nat} (d : α) (h : i < l.length) : l.getD i d ∈ l := by
  rw [List.getD_eq_getElem?_getD, List.getElem?_eq_getElem h]; exact List.getElem_mem h
theorem Elts.rowAt_sound {e : Elts} {i : Nat} {q : Bool} {r : Row} (h : e.rowAt i = some (q, r)) (hi : i < e.len) : (q, r) ∈ e.rds ∧ ∀ s ∈ e.get i, s = r.hd q ∨ (s.keys = [] ∧ s.isHd = false) := by
  unfold Elts.rowAt at h
  split at h <;> cases h
  · rename_i l _
    exact ⟨List.mem_map.2 ⟨_, getD_mem' rowD hi, rfl⟩, fun s hs => by simp [Elts.get, svR] at hs; exact .inl hs⟩
  · rename_i l _
    refine ⟨List.mem_map.2 ⟨_, getD_mem' (rowD, 0) hi, rfl⟩, fun s hs => ?_⟩
    simp only [Elts.get, svV, List.mem_cons, List.not_mem_nil, or_false] at hs
    rcases hs with rfl | rfl
    · exact .inl rfl
    · exact .inr ⟨rfl, rfl⟩
  · rename_i l _
    refine ⟨List.mem_map.2 ⟨_, getD_mem' (0, 0, rowD) hi, rfl⟩, fun s hs => ?_⟩
    simp only [Elts.get, svM, List.mem_cons, List.not_mem_nil, or_false] at hs
    rcases hs with rfl | rfl | rfl
    · exact .inr ⟨rfl, rfl⟩
    · exact .inr ⟨rfl, rfl⟩
    · exact .inl rfl
theorem pPart_mem {l : List SV} {n : Nat} {d : TD} {v : AV} (h : pPart l n d = some v) : ∃ m : List SV, (v = .agg m ∨ ∃ s, v = .one s ∧ m = [s]) ∧ ∀ s ∈ m, s ∈ l := by
  unfold pPart at h
  split at h
  · split at h
    · rename_i s hs
      cases h
      rw [nth_eq] at hs
      exact ⟨[s], .inr ⟨s, rfl, rfl⟩, by simpa using List.mem_of_getElem? hs⟩
    · cases h
  · split at h
    · cases h
      exact ⟨_, .inl rfl, fun s hs => List.mem_of_mem_drop (List.mem_of_mem_take hs)⟩
    · cases h
theorem ali_conc {ρ ρ' : Rho} {n : Nat} {q : Bool} {r : Row} (hn : ρ' n = r.a) {s : SV} (hs : s = r.hd q ∨ (s.keys = [] ∧ s.isHd = false)) : (s.ali n (Row.sz q)).conc ρ' = s.conc ρ := by
  rcases hs with rfl | ⟨h1, h2⟩
  · simp [Row.hd_eq, SV.ali, SV.conc, adr, hn]
  · cases s with
    | hd a len cap => cases h2
    | _ => exact noKeys_conc h1 ρ' ρ
theorem ali_keys {n sz : Nat} {q : Bool} {r : Row} {s : SV} (hs : s = r.hd q ∨ (s.keys = [] ∧ s.isHd = false)) : ∀ k ∈ (s.ali n sz).keys, k = n := by
  rcases hs with rfl | ⟨h1, h2⟩
  · intro k hk; simpa [Row.hd_eq, SV.ali, SV.keys] using hk
  · cases s with
    | hd a len cap => cases h2
    | _ => intro k hk; simp only [SV.ali] at hk; rw [h1] at hk; cases hk
theorem sLoadC_sound (hT : Tab P tab) {t : TypeId} {x : Operand} (ho : o.op = .load t x) {H' : Nat → Option Blk} (h : sLoadC tab σ.fr σ.H σ.nx t x = some (c, v, H')) (hc : c) : OpR P o E N σ (det v H' (σ.nx + 1)) :=
  .of_run fun ρ a w hI => by
    unfold sLoadC at h
    split at h
    · rename_i d k sz i f hd hx
      split at h
      · rename_i e he
        split at h
        · rename_i u q r hsz hp hr
          split at h
          · cases h
            obtain ⟨h1, _⟩ := load_at hT.ok ho hI.f hI.h.hb hd hx he hsz hp hc
            obtain ⟨m1, m2⟩ := Elts.rowAt_sound hr hc
            obtain ⟨m, hm, hm2⟩ := pPart_mem hp
            unfold eltsAt at he
            split at he
            · rename_i b hb
              have hbr : (q, r) ∈ b.rds := by cases b <;> cases he <;> exact m1
              have hat := hI.h.rows k b hb (q, r) hbr
              have hn : setR ρ σ.nx r.a σ.nx = r.a := setR_same
              refine ⟨setR ρ σ.nx r.a, w, _, _, σ.nx + 1, ?_, ⟨rfl, rfl, rfl⟩, hI.h.add (row := none) ⟨rfl, rfl, rfl, Nat.le_refl _, fun _ _ _ => rfl⟩ (fun _ e => by cases e) (fun _ _ _ _ _ _ e => by cases e) (fun _ _ _ _ _ e => by cases e) (fun p hp' hl => ?_) (fun x hx => ?_) (fun k1 b1 p1 g _ _ _ hf => ?_) (fun _ _ _ e => by cases e) (rowAt_al hn hat) (fun k' hk' => ?_), fun k hk => setR_ne (Nat.ne_of_lt hk), Nat.le_succ _, fun k' hk' => ?_⟩
              · rw [h1]
                congr 1
                rcases hm with rfl | ⟨s, rfl, rfl⟩
                · simp only [AV.ali, AV.conc, cells, List.map_map]
                  congr 3
                  exact List.map_congr_left fun s hs => (ali_conc hn (m2 s (hm2 s hs))).symm
                · simp only [AV.ali, AV.conc]
                  rw [ali_conc hn (m2 s (hm2 s (by simp)))]
              · refine ⟨(fun e => nomatch e), (fun e => nomatch e), (fun k1 b1 p1 hk1 ho1 hp1 => ?_), (fun e => nomatch e), (fun e => nomatch e)⟩
                have hl' : 0 < r.len q := by
                  simp only [Blk.live, Row.elts_len, Bool.not_eq_true'] at hl
                  have := Nat.ne_of_beq_eq_false hl
                  omega
                exact hI.h.far k1 k b1 b p1 p.1 hk1 hb ho1 hp1 (Blk.Far_rds hbr hl' hp')
              · have : x ∈ (r.elts q).rds := hx
                rw [Row.elts_rds] at this; cases this
              · obtain ⟨x, hx, _⟩ := hf
                have : x ∈ (r.elts q).rds := hx
                rw [Row.elts_rds] at this; cases this
              · have : k' ∈ keysOf (r.elts q).all := hk'
                rw [Row.elts_all, int_keys (Row.svs_keys q r)] at this; cases this
              · have hk2 : k' = σ.nx := by
                  rcases hm with rfl | ⟨s, rfl, rfl⟩
                  · obtain ⟨s', hs', hk''⟩ := List.mem_flatMap.1 hk'
                    obtain ⟨s, hs, rfl⟩ := List.mem_map.1 hs'
                    exact ali_keys (m2 s (hm2 s hs)) k' hk''
                  · exact ali_keys (m2 s (hm2 s (by simp))) k' hk'
                omega
            · cases he
          · cases h
        · cases h
      · cases h
    · cases h
def sLoadR (tab : List (Nat × TD)) (fr : Nat → Option AV) (H : Nat → Option Blk) (nx : Nat) (t : TypeId) (x : Operand) : Option (Prop × AV × (Nat → Option Blk)) := match tget tab t, ev fr x with
  | some d, some (.one (.ptr k sz i f)) => match eltsAt H k with
    | some e => match Nat.beq e.sz sz, pPart (e.get i) f d, e.rowAt i with
      | true, some v, some (q, r) => match q, v with
        | false, .one (.hd _ len cap) => some (i < e.len, .one (.sl nx 1 0 len cap), upd H nx (.al r.a (.ints r.xs)))
        | true, .one (.hd _ len cap) => some (i < e.len, .one (.sl nx 2 0 len cap), upd H nx (.al r.a (.i2 r.ps)))
        | false, .agg [.hd _ len cap, .int n] => some (i < e.len, .agg [.sl nx 1 0 len cap, .int n], upd H nx (.al r.a (.ints r.xs)))
        | false, .agg [.int n, .int m, .hd _ len cap] => some (i < e.len, .agg [.int n, .int m, .sl nx 1 0 len cap], upd H nx (.al r.a (.ints r.xs)))
        | _, _ => none
      | _, _, _ => none
    | none => none
  | _, _ => none
theorem sLoadR_eq {tab : List (Nat × TD)} {fr : Nat → Option AV} {H : Nat → Option Blk} {nx : Nat} {t : TypeId} {x : Operand} {c : Prop} {v : AV} {H' : Nat → Option Blk} (h : sLoadR tab fr H nx t x = some (c, v, H')) : sLoadC tab fr H nx t x = some (c, v, H') := by
  unfold sLoadR at h
  unfold sLoadC
  split at h
  · rename_i d k sz i f hd hx
    split at h
    · rename_i e he
      split at h
      · rename_i u q r hsz hp hr
        split at h
        all_goals first | (cases h; done) | (cases h; rfl)
      · cases h
    · cases h
  · cases h
theorem sLoadR_sound (hT : Tab P tab) {t : TypeId} {x : Operand} (ho : o.op = .load t x) {H' : Nat → Option Blk} (h : sLoadR tab σ.fr σ.H σ.nx t x = some (c, v, H')) (hc : c) : OpR P o E N σ (det v H' (σ.nx + 1)) := sLoadC_sound hT ho (sLoadR_eq h) hc
def Elts.sub : Elts → Nat → Nat → Option Elts
  | .ints l, o, m => some (.ints ((l.drop o).take m))
  | .i2 l, o, m => some (.i2 ((l.drop o).take m))
  | .i3 l, o, m => some (.i3 ((l.drop o).take m))
  | .rows q f l, o, m => some (.rows q f ((l.drop o).take m))
  | .vals f l, o, m => some (.vals f ((l.drop o).take m))
  | .mats f l, o, m => some (.mats f ((l.drop o).take m))
  | .lit _, _, _ => none
  | .bytes _, _, _ => none
def Elts.app : Elts → Elts → Option Elts
  | .ints l, .ints m => some (.ints (l ++ m))
  | .i2 l, .i2 m => some (.i2 (l ++ m))
  | .i3 l, .i3 m => some (.i3 (l ++ m))
  | .rows false true l, .rows false true m => some (.rows false true (l ++ m))
  | .rows true true l, .rows true true m => some (.rows true true (l ++ m))
  | .vals true l, .vals true m => some (.vals true (l ++ m))
  | .mats true l, .mats true m => some (.mats true (l ++ m))
  | .mats false l, .mats false m => some (.mats false (l ++ m))
  | _, _ => none
def Elts.none? : Nat → Option Elts → Option Elts
  | _, some e => some e
  | 1, none => some (.ints [])
  | 2, none => some (.i2 [])
  | 3, none => some (.i3 [])
  | _, none => none
theorem flat_drop {α : Type} {f : α → List SV} {m : Nat} (hf : ∀ x, (f x).length = m) : ∀ (l : List α) (o : Nat), (l.drop o).flatMap f = (l.flatMap f).drop (o * m)
  | [], o => by simp
  | x :: l, 0 => by simp
  | x :: l, o + 1 => by
    rw [List.drop_succ_cons, flat_drop hf l o, List.flatMap_cons, show (o + 1) * m = (f x).length + o * m by rw [hf, Nat.succ_mul]; omega, List.drop_length_add_append]
theorem flat_take {α : Type} {f : α → List SV} {m : Nat} (hf : ∀ x, (f x).length = m) : ∀ (l : List α) (o : Nat), (l.take o).flatMap f = (l.flatMap f).take (o * m)
  | [], o => by simp
  | x :: l, 0 => by simp
  | x :: l, o + 1 => by
    rw [List.take_succ_cons, List.flatMap_cons, flat_take hf l o, List.flatMap_cons, show (o + 1) * m = (f x).length + o * m by rw [hf, Nat.succ_mul]; omega, List.take_length_add_append]
theorem Elts.sub_sound {e e' : Elts} {o m : Nat} (h : e.sub o m = some e') (hle : o + m ≤ e.len) : e'.sz = e.sz ∧ e'.len = m ∧ e'.all = (e.all.drop (o * e.sz)).take (m * e.sz) := by
  cases e with
  | lit l => cases h
  | bytes l => cases h
  | ints l =>
    cases h
    simp only [Elts.len] at hle
    exact ⟨rfl, by simp [Elts.len]; omega, by simp [Elts.all, Elts.sz, List.map_take, List.map_drop]⟩
  | i2 l =>
    cases h
    simp only [Elts.len] at hle
    exact ⟨rfl, by simp [Elts.len]; omega, by simp only [Elts.all, Elts.sz]; rw [flat_take (m := 2) (f := sv2) (fun _ => rfl), flat_drop (m := 2) (f := sv2) (fun _ => rfl)]⟩
  | i3 l =>
    cases h
    simp only [Elts.len] at hle
    exact ⟨rfl, by simp [Elts.len]; omega, by simp only [Elts.all, Elts.sz]; rw [flat_take (m := 3) (f := sv3) (fun _ => rfl), flat_drop (m := 3) (f := sv3) (fun _ => rfl)]⟩
  | rows q f l =>
    cases h
    simp only [Elts.len] at hle
    exact ⟨rfl, by simp [Elts.len]; omega, by simp only [Elts.all, Elts.sz]; rw [flat_take (m := 1) (f := svR q) (fun _ => rfl), flat_drop (m := 1) (f := svR q) (fun _ => rfl)]⟩
  | vals f l =>
    cases h
    simp only [Elts.len] at hle
    exact ⟨rfl, by simp [Elts.len]; omega, by simp only [Elts.all, Elts.sz]; rw [flat_take (m := 2) (f := svV) (fun _ => rfl), flat_drop (m := 2) (f := svV) (fun _ => rfl)]⟩
  | mats f l =>
    cases h
    simp only [Elts.len] at hle
    exact ⟨rfl, by simp [Elts.len]; omega, by simp only [Elts.all, Elts.sz]; rw [flat_take (m := 3) (f := svM) (fun _ => rfl), flat_drop (m := 3) (f := svM) (fun _ => rfl)]⟩
theorem sub_map {α β : Type} {g : α → β} {l : List α} {o m : Nat} : ∀ x ∈ ((l.drop o).take m).map g, x ∈ l.map g := fun x hx => by
  obtain ⟨y, hy, rfl⟩ := List.mem_map.1 hx
  exact List.mem_map.2 ⟨y, List.mem_of_mem_drop (List.mem_of_mem_take hy), rfl⟩
theorem Elts.sub_rds {e e' : Elts} {o m : Nat} (h : e.sub o m = some e') : ∀ x ∈ e'.rds, x ∈ e.rds := by
  cases e with
  | rows q f l => cases h; cases f <;> first | exact sub_map | (intro x hx; cases hx)
  | vals f l => cases h; cases f <;> first | exact sub_map | (intro x hx; cases hx)
  | mats f l => cases h; cases f <;> first | exact sub_map | (intro x hx; cases hx)
  | _ => first | (cases h; done) | (cases h; intro x hx; cases hx)
theorem Elts.app_rds {e e' e2 : Elts} (h : e.app e2 = some e') : ∀ x ∈ e'.rds, x ∈ e.rds ∨ x ∈ e2.rds := by
  unfold Elts.app at h
  split at h <;> cases h <;> intro x hx <;> first | (cases hx; done) | skip
  all_goals simpa [Elts.rds] using hx
theorem Elts.app_sound {e e' e2 : Elts} (h : e.app e2 = some e') : e'.sz = e.sz ∧ e2.sz = e.sz ∧ e'.len = e.len + e2.len ∧ e'.all = e.all ++ e2.all ∧ 0 < e.sz := by
  unfold Elts.app at h
  split at h <;> cases h <;> simp [Elts.sz, Elts.len, Elts.all]
def srcOf (H : Nat → Option Blk) (k o m : Nat) : Option Elts := match eltsAt H k with
  | some e => e.sub o m
  | none => none
def appOut (H : Nat → Option Blk) (nx : Nat) (et k sz n : Nat) (e' : Elts) (m : Nat) : AV → (Nat → Option Blk) → Nat → Prop := fun v H' nx' =>
  ∃ c, n + m ≤ c ∧ v = .one (.sl nx sz 0 (n + m) c) ∧ H' = upd (upd H k .dead) nx (.own et c e') ∧ nx' = nx + 1
def sAppend (tab : List (Nat × TD)) (fr : Nat → Option AV) (H : Nat → Option Blk) (nx : Nat) (t : TypeId) (x y : Operand) : Option (Prop × (AV → (Nat → Option Blk) → Nat → Prop)) := match tget tab t, ev fr x, ev fr y with
  | some d, some (.one (.sl k sz 0 n cap)), some (.one (.sl k2 sz2 o2 m _)) => match d.kind, H k, eltsAt H k2 with
    | .sl et, some (.own tb cp e), some e2 => match tget tab et, e2.sub o2 m with
      | some d', some e3 => match e.app e3, Nat.beq tb et, Nat.beq d'.size sz, Nat.beq e.sz sz, Nat.beq e2.sz sz2, Nat.ble d'.bytes 64 with
        | some e', true, true, true, true, true => some ((n = e.len ∧ cap = cp) ∧ o2 + m ≤ e2.len ∧ n + m ≤ 1099511627776, appOut H nx et k sz n e' m)
        | _, _, _, _, _, _ => none
      | _, _ => none
    | _, _, _ => none
  | _, _, _ => none
theorem sAppend_sound (hT : Tab P tab) {t : TypeId} {x y : Operand} (ho : o.op = .call ⟨.builtin .append, #[x, y], #[t, t]⟩) (h : sAppend tab σ.fr σ.H σ.nx t x y = some (c, R)) (hc : c) : OpR P o E N σ R :=
  .of_run fun ρ a w hI => by
    unfold sAppend at h
    split at h
    · rename_i d k sz n cap k2 sz2 o2 m cap2 hd hx hy
      split at h
      · rename_i et tb cp e e2 hk hH he2
        split at h
        · rename_i d' e3 hd' he3
          split at h
          · rename_i e' happ hb1 hb2 hb3 hb4 hb5
            have hb1 := Nat.eq_of_beq_eq_true hb1
            have hb2 := Nat.eq_of_beq_eq_true hb2
            have hb3 := Nat.eq_of_beq_eq_true hb3
            have hb4 := Nat.eq_of_beq_eq_true hb4
            have hb5 := Nat.le_of_ble_eq_true hb5
            subst hb1
            cases h
            obtain ⟨⟨rfl, rfl⟩, c1, c3⟩ := hc
            obtain ⟨h1, _⟩ := ev_sound hI.f hI.h.nil hI.h.hb.pos hx
            obtain ⟨h2, _⟩ := ev_sound hI.f hI.h.nil hI.h.hb.pos hy
            obtain ⟨s1, s2, s3⟩ := Elts.sub_sound he3 c1
            obtain ⟨a1, a2, a3, a4, a5⟩ := Elts.app_sound happ
            have hb := hI.h.blk k _ hH
            simp only [BlkOK] at hb
            obtain ⟨i, hi, hiz, his, hib⟩ := (hT.ok tb d' hd').infoE
            have hkey := (hI.h.key k _ hH).1
            have hks : ∀ k' ∈ keysOf e'.all, k' < σ.nx := fun k' hk' => by
              rw [a4] at hk'
              obtain ⟨s, hs, hk'⟩ := List.mem_flatMap.1 hk'
              rcases List.mem_append.1 hs with hs | hs
              · exact (hI.h.key k _ hH).2 k' (List.mem_flatMap.2 ⟨s, hs, hk'⟩)
              · rw [s3] at hs
                exact (eltsAt_keys hI.h.hb he2).2 k' (List.mem_flatMap.2 ⟨s, List.mem_of_mem_drop (List.mem_of_mem_take hs), hk'⟩)
            obtain ⟨b2, hb2H, hb2e⟩ : ∃ b2, σ.H k2 = some b2 ∧ b2.elts = some e2 := by
              unfold eltsAt at he2
              split at he2
              · exact ⟨_, ‹_›, he2⟩
              · cases he2
            have hb2r : ∀ x, x ∈ e2.rds → x ∈ b2.rds := fun x hx => by cases b2 <;> cases hb2e <;> exact hx
            have hrds : ∀ x ∈ e'.rds, ∃ k1 b1, σ.H k1 = some b1 ∧ x ∈ b1.rds := fun x hx => by
              rcases Elts.app_rds happ x hx with h | h
              · exact ⟨k, _, hH, h⟩
              · exact ⟨k2, b2, hb2H, hb2r x (Elts.sub_rds he3 x h)⟩
            have hFar : ∀ {cc : Nat} {g : Nat}, (Blk.own tb cc e').Far g → ∃ k1 b1, σ.H k1 = some b1 ∧ b1.Far g := fun {cc g} ⟨x, hx, h0, p, hp, hg⟩ => by
              obtain ⟨k1, b1, f1, f2⟩ := hrds x hx
              exact ⟨k1, b1, f1, hg ▸ Blk.Far_rds f2 h0 hp⟩
            have hlive : ∀ k1 b, upd σ.H k .dead k1 = some b → b.live = true → k1 ≠ k ∧ σ.H k1 = some b := fun k1 b hu hl => by
              by_cases e : k1 = k
              · subst e; rw [upd_same] at hu; cases hu; cases hl
              · rw [upd_ne e] at hu; exact ⟨e, hu⟩
            have hfarK : ∀ k1 b g, upd σ.H k .dead k1 = some b → b.Far g → σ.H k1 = some b := fun k1 b g hu hf => by
              by_cases e : k1 = k
              · subst e; rw [upd_same] at hu; cases hu; obtain ⟨x, hx, _⟩ := hf; cases hx
              · rw [upd_ne e] at hu; exact hu
            have hkill := hI.h.kill hkey
            have hownK : ∀ k1 b1 p1 g cc, upd σ.H k .dead k1 = some b1 → b1.isOwn = true → ρ k1 = some p1 → (Blk.own tb cc e').Far g → p1.1 ≠ g := fun k1 b1 p1 g cc hu ho hp hf => by
              obtain ⟨_, hu⟩ := hlive k1 b1 hu (by cases b1 <;> first | rfl | cases ho)
              obtain ⟨k3, b3, f1, f2⟩ := hFar hf
              exact hI.h.far k1 k3 b1 b3 p1 g hu f1 ho hp f2
            rcases Nat.eq_zero_or_pos m with hm0 | c2
            · subst hm0
              have hle : e.len ≤ cap := by
                rcases hb.2 with ⟨hv, hn⟩ | ⟨g, cap', cur, hv, _, _, hle, _⟩
                · omega
                · simp at hv; omega
              have he0 : e3.all = [] := by rw [s3]; simp
              have hn0 : e'.len = e.len := by rw [a3, s2]; rfl
              have hA0 : e'.all = e.all := by rw [a4, he0, List.append_nil]
              refine ⟨setR ρ σ.nx (ρ k), w, _, _, σ.nx + 1, ?_, ⟨cap, by omega, rfl, rfl, rfl⟩, hkill.add (row := none) ⟨rfl, rfl, rfl, Nat.le_refl _, fun _ _ _ => rfl⟩ (fun _ e => by cases e) (fun _ _ _ _ _ _ e => by cases e) (fun _ _ _ _ _ e => by cases e) ?_ (fun x hx => by obtain ⟨k1, b1, f1, f2⟩ := hrds x hx; exact hI.h.rows k1 b1 f1 x f2) (fun k1 b1 p1 g hu ho hp hf => hownK k1 b1 p1 g _ hu ho hp hf) (fun _ _ _ e => by cases e) ?_ hks, fun k hk => setR_ne (Nat.ne_of_lt hk), Nat.le_succ _, by simp [AV.keys, SV.keys]⟩
              · have h1' : a.eval x = .slice (adr ρ k 0) e.len cap := by rw [h1]; simp [AV.conc, SV.conc]
                have h2' : a.eval y = .slice (adr ρ k2 (o2 * sz2)) 0 cap2 := h2
                have hf : (Builtin.firstCells d'.size 0 (.slice (adr ρ k2 (o2 * sz2)) 0 cap2)).run P w = .ok #[] w := by
                  cases adr ρ k2 (o2 * sz2) <;> simp [Builtin.firstCells, loadCells, loadCellsFrom]
                have hr : (Builtin.append_ #[t, t] o.type #[.slice (adr ρ k 0) e.len cap, .slice (adr ρ k2 (o2 * sz2)) 0 cap2]).run P w = .ok (.slice (adr ρ k 0) e.len cap) w := by
                  cases adr ρ k 0 <;> simp [Builtin.append_, run_underlying ((hT.ok t d hd).slice hk), sizeOf, typeInfo, hi, his, Builtin.lenOf, hle, hf, storeCells]
                simp only [execOp, ho, resolve]
                simp only [List.map_toArray, List.map_cons, List.map_nil, Sem.run_bind, Sem.run_pure, Result.andThen_ok, invoke, builtin, h1', h2', hr]
                simp [AV.conc, SV.conc, adr, setR_same]
              · intro q hq _
                refine ⟨fun _ => hI.h.wr hH rfl hq, fun _ k1 b p hu hl hp => ?_, fun k1 b p hu ho hp => ?_, fun _ k1 t1 q1 l1 hu r hr p' hp' => ?_, fun _ => ⟨fun k1 b' g hu hf => hI.h.far k k1 _ b' q g hH (hfarK k1 b' g hu hf) rfl hq hf, fun g hf => ?_⟩⟩
                · obtain ⟨hne, hu⟩ := hlive k1 b hu hl
                  exact fun e => hI.h.inj k k1 _ b q p hH hu rfl hl (Ne.symm hne) hq hp e.symm
                · have hl : b.live = true := by cases b <;> first | rfl | cases ho
                  obtain ⟨hne, hu⟩ := hlive k1 b hu hl
                  exact fun e => hI.h.inj k k1 _ b q p hH hu rfl hl (Ne.symm hne) hq hp e.symm
                · obtain ⟨hne, hu⟩ := hlive k1 _ hu rfl
                  exact hI.h.far k k1 _ _ q p'.1 hH hu rfl hq ⟨r, hr, p', hp', rfl⟩
                · obtain ⟨k3, b3, f1, f2⟩ := hFar hf
                  exact hI.h.far k k3 _ b3 q g hH f1 rfl hq f2
              · have hc : cells (setR ρ σ.nx (ρ k)) e'.all = cells ρ e.all := by
                  rw [cells_congr (ρ' := ρ) fun k hk => setR_ne (Nat.ne_of_lt (hks k hk)), hA0]
                have hadr : adr (setR ρ σ.nx (ρ k)) σ.nx 0 = adr ρ k 0 := by simp [adr, setR_same]
                simp only [BlkOK, hc, hadr, hn0, a1]
                exact hb
            obtain ⟨p2, hp2, hcell⟩ := eltsAt_sound hI.h.hb he2 (by omega)
            have h2' : a.eval y = .slice (some ⟨p2.1, p2.2 + o2 * sz2, none⟩) m cap2 := by rw [h2]; simp [AV.conc, SV.conc, adr, hp2]
            have h1' : a.eval x = .slice (adr ρ k 0) e.len cap := by rw [h1]; simp [AV.conc, SV.conc]
            have hsz : e2.sz = d'.size := by rw [← s1, a2, hb3, hb2]
            have hnl : (cells ρ e3.all).length = m * d'.size := by
              have := Elts.all_len e3
              simp only [cells, List.length_map, this, s2, s1, hsz]
            have hnews : ∀ j u, (cells ρ e3.all)[j]? = some u → w.cell? ((⟨p2.1, p2.2 + o2 * sz2, none⟩ : Addr).add j) = some u := fun j u hu => by
              rw [Addr.add_none]
              simp only [cells, List.getElem?_map, Option.map_eq_some_iff] at hu
              obtain ⟨s, hs, rfl⟩ := hu
              rw [s3, List.getElem?_take] at hs
              split at hs
              · rw [List.getElem?_drop] at hs
                have := hcell _ s hs
                rw [← this, ← hb4, Nat.add_assoc]
              · cases hs
            have hbytes : (e.len + m) * d'.bytes ≤ 140737488355328 := by
              calc (e.len + m) * d'.bytes ≤ 1099511627776 * 64 := Nat.mul_le_mul c3 hb5
                _ ≤ _ := by omega
            obtain ⟨v', w', hr, hown, hg, _, hat⟩ := run_append_own_at (P := P) w 0 t o.type tb i d'.zeroV d'.size d'.bytes ((hT.ok t d hd).slice hk) hi hiz his hib
              (by rw [zeroV_cells (hT.ok tb d' hd') hI.h.nil]; simp [cells, (hT.ok tb d' hd').len]) (by rw [hb2, ← hb3]; exact a5) _ e.len (cells ρ e.all) (by rw [hb2, ← hb3]; exact hb) _ m cap2 (cells ρ e3.all) hnl hnews
              (fun u hu => by obtain ⟨s, _, rfl⟩ := List.mem_map.1 hu; exact SV.oneCell) (by simp only [maxLen]; omega) hbytes (Nat.zero_le _)
            have hown' := hown
            obtain ⟨_, ⟨_, h0⟩ | ⟨g, c, cur, hv, _, hgc, hle, hmax, hcur, htake⟩⟩ := hown
            · omega
            · subst hv
              have hrow : ∀ g', (Value.slice (adr ρ k 0) e.len cap).ownBlock = some g' → ∃ p, ρ k = some p ∧ p.1 = g' := fun g' hg' => by
                cases hp : ρ k with
                | none => simp [adr, hp, Value.ownBlock] at hg'
                | some p => simp [adr, hp, Value.ownBlock] at hg'; exact ⟨p, rfl, hg'⟩
              have hdiff : ∀ k1 b p g', upd σ.H k .dead k1 = some b → b.live = true → ρ k1 = some p → (Value.slice (adr ρ k 0) e.len cap).ownBlock = some g' → p.1 ≠ g' := fun k1 b p g' hu hl hp hg' e => by
                obtain ⟨q, hq, rfl⟩ := hrow g' hg'
                obtain ⟨hne, hu⟩ := hlive k1 b hu hl
                exact hI.h.inj k k1 _ b q p hH hu rfl hl (Ne.symm hne) hq hp e.symm
              have hgcase : (Value.slice (adr ρ k 0) e.len cap).ownBlock = some g ∨ w.heap.size ≤ g := by
                rcases hat with h | h
                · exact .inl h.symm
                · have h : g = w.heap.size := by simpa [Value.ownBlock] using h
                  exact .inr (by omega)
              refine ⟨setR ρ σ.nx (some (g, 0)), w', _, _, σ.nx + 1, ?_, ⟨c, hle, rfl, rfl, rfl⟩, hkill.add hg ?_ ?_ ?_ ?_ ?_ ?_ (fun _ _ _ e => by cases e) ?_ hks, fun k hk => setR_ne (Nat.ne_of_lt hk), Nat.le_succ _, by simp [AV.keys, SV.keys]⟩
              · simp only [execOp, ho, resolve]
                simp only [List.map_toArray, List.map_cons, List.map_nil, Sem.run_bind, Sem.run_pure, Result.andThen_ok, invoke, builtin, h1', h2', hr]
                simp [AV.conc, SV.conc, adr, setR_same]
              · intro g' hg'
                obtain ⟨q, hq, rfl⟩ := hrow g' hg'
                exact hI.h.wr hH rfl hq
              · intro k1 b p hu hl hp e
                exact hdiff k1 b p p.1 hu hl hp e.symm rfl
              · intro k1 b g' hu hf e
                obtain ⟨q, hq, e'⟩ := hrow g' e.symm
                exact hI.h.far k k1 _ b q g' hH (hfarK k1 b g' hu hf) rfl hq hf e'
              · intro q hq _
                cases hq
                have hlivE : ∀ k1 b p, upd σ.H k .dead k1 = some b → b.live = true → ρ k1 = some p → p.1 ≠ g := fun k1 b p hu hl hp => by
                  rcases hgcase with h | h
                  · exact hdiff k1 b p g hu hl hp h
                  · exact Nat.ne_of_lt (Nat.lt_of_lt_of_le ((hI.h.blk k1 b (hlive k1 b hu hl).2).lt hl hp) h)
                have hfarE : ∀ k1 b g', σ.H k1 = some b → b.Far g' → g ≠ g' := fun k1 b g' hu hf => by
                  rcases hgcase with h | h
                  · obtain ⟨q, hq, e'⟩ := hrow g h
                    rw [← e']
                    exact hI.h.far k k1 _ b q g' hH hu rfl hq hf
                  · exact Nat.ne_of_gt (Nat.lt_of_lt_of_le (hI.h.far_lt hu hf) h)
                refine ⟨fun _ => ?_, fun _ k1 b p hu hl hp => hlivE k1 b p hu hl hp, fun k1 b p hu ho hp => hlivE k1 b p hu (by cases b <;> first | rfl | cases ho) hp, fun _ k1 t1 q1 l1 hu r hr p' hp' => hfarE k1 _ p'.1 (hfarK k1 _ p'.1 hu ⟨r, hr, p', hp', rfl⟩) ⟨r, hr, p', hp', rfl⟩, fun _ => ⟨fun k1 b' g' hu hf => hfarE k1 b' g' (hfarK k1 b' g' hu hf) hf, fun g' hf => ?_⟩⟩
                · rcases hgcase with h | h
                  · obtain ⟨q', hq', e'⟩ := hrow g h
                    have := hI.h.wr hH rfl hq'
                    rw [e'] at this; exact this
                  · exact .inl (Nat.le_trans hI.h.keeps.size h)
                · obtain ⟨k3, b3, f1, f2⟩ := hFar hf
                  exact hfarE k3 b3 g' f1 f2
              · intro x hx
                obtain ⟨k1, b1, f1, f2⟩ := hrds x hx
                exact (hI.h.rows k1 b1 f1 x f2).grown hg fun p hp h0 e => by
                  obtain ⟨q, hq, e'⟩ := hrow p.1 e.symm
                  exact hI.h.far k k1 _ b1 q p.1 hH f1 rfl hq (Blk.Far_rds f2 h0 hp) e'
              · exact fun k1 b1 p1 g' hu ho hp hf => hownK k1 b1 p1 g' _ hu ho hp hf
              · have hc : cells (setR ρ σ.nx (some (g, 0))) e'.all = cells ρ e.all ++ cells ρ e3.all := by
                  rw [cells_congr (ρ' := ρ) fun k hk => setR_ne (Nat.ne_of_lt (hks k hk)), a4]; simp [cells]
                simp only [BlkOK, adr, setR_same, Option.map_some, Nat.add_zero, hc, a3, s2, a1]
                rw [hb3, ← hb2]; exact hown'
          · cases h
        · cases h
      · cases h
    · cases h
end
end Go.Proofs.YtekpamojojfplaaGreat
