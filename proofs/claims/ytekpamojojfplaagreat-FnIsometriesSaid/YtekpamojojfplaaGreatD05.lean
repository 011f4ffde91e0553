/-
  TEXTS OF THE PROOF, put together: Am5.
-/
import Derived.Test.YtekpamojojfplaaGreatD04
set_option linter.unusedVariables false
set_option linter.unusedSimpArgs false
namespace Go.Proofs.YtekpamojojfplaaGreat
open Go.RowKit
theorem nblt {a b : Nat} (h : Nat.blt a b = true) : a < b := by rw [Nat.blt_eq] at h; exact h
abbrev Post := Exit → St → Prop
def lift (E : Env) (N : Nat) (Q : Post) : Exit → Act → World → Prop := fun e a w => ∃ ρ σ, Inv E N ρ σ a w ∧ Q e σ
def awp (P : Program) (E : Env) (N : Nat) (c : Code) (Q : Post) (σ : St) : Prop := ∀ ρ a w, Inv E N ρ σ a w → c.wp P (lift E N Q) a w
def awpL (P : Program) (E : Env) (N : Nat) (l0 : List Oper) (Q : Post) (l : List Oper) (σ : St) : Prop := ∀ ρ a w, Inv E N ρ σ a w → wpList P l0.toArray (lift E N Q) l a w
def thenQ (K : St → Prop) (Q : Post) : Post := fun e σ => match e with
  | .normal => K σ
  | e => Q e σ
def blockQ (id : Nat) (Q : Post) : Post := fun e σ => match e with
  | .exit i => bif Nat.beq i id then Q .normal σ else Q (.exit i) σ
  | e => Q e σ
def slotOf (l : List Oper) (j : Nat) : Option Nat := match nth l j with
  | some o => o.dst
  | none => none
def wantA (l : List Oper) (fr : Nat → Option AV) (o : Oper) : Option Bool := match o.guard with
  | none => some true
  | some g => match slotOf l g.1 with
    | some s => match fr s with
      | some (.one (.bool b)) => some (b == g.2)
      | some (.tup _) => some false
      | _ => none
    | none => none
def putA (σ : St) (d : Option Nat) (v : AV) : St := match d with
  | some d => ⟨upd σ.fr d v, σ.H, σ.nx⟩
  | none => σ
def inFrame (N : Nat) : Option Nat → Bool
  | some d => Nat.blt d N
  | none => true
def stepA (tab : List (Nat × TD)) (fr : Nat → Option AV) (H : Nat → Option Blk) (nx : Nat) (o : Oper) : Option (Prop × (Nat → Option AV) × (Nat → Option Blk) × Nat) := match pstep tab fr H o.op with
  | some (c, v) => match o.dst with
    | some d => some (c, upd fr d v, H, nx)
    | none => some (c, fr, H, nx)
  | none => match o.op, o.dst with
    | .box t x, some d => match sBox fr H nx t x with
      | some (v, H') => some (True, upd fr d v, H', nx + 1)
      | none => none
    | .alloc t, some d => match sAlloc tab fr H nx t with
      | some (v, H') => some (True, upd fr d v, H', nx + 1)
      | none => none
    | .makeSlice t x y, some d => match sMake tab fr H nx t x y with
      | some (c, v, H') => some (c, upd fr d v, H', nx + 1)
      | none => none
    | .buildSlice t n ps, some d => match sBuildSlice tab fr H nx t n ps with
      | some (v, H') => some (True, upd fr d v, H', nx + 1)
      | none => match sBuildRows tab fr H nx t n ps with
        | some (c, v, H') => some (c, upd fr d v, H', nx + 1)
        | none => none
    | .load t x, some d => match sLoadR tab fr H nx t x with
      | some (c, v, H') => some (c, upd fr d v, H', nx + 1)
      | none => none
    | .store t x y, none => match sStore tab fr H nx t x y with
      | some (c, H') => some (c, fr, H', nx)
      | none => none
    | _, _ => none
section
variable {P : Program} {tab : List (Nat × TD)} {E : Env} {N : Nat} {Q : Post} {σ : St} {fr : Nat → Option AV} {H : Nat → Option Blk} {nx : Nat}
theorem wantA_sound {l : List Oper} {fr : Nat → Option AV} {o : Oper} {r : Bool} {nx : Nat} {ρ : Rho} {a : Act} (hF : FInv N ρ fr nx a) (h : wantA l fr o = some r) : Region.wanted o (yielded l.toArray a.tmps) = r := by
  unfold wantA at h
  unfold Region.wanted
  split at h
  · rename_i hg
    cases h
    rw [hg]
  · rename_i g hg
    split at h
    · rename_i s hs
      split at h
      · rename_i b hb
        cases h
        rw [hg]
        have h1 := hF.val s _ hb
        have h2 : a.tmps[s]? = some (.bool b) := by
          simp only [Array.getD_eq_getD_getElem?] at h1
          cases hx : a.tmps[s]? with
          | none => rw [hx] at h1; simp [undef, AV.conc, SV.conc] at h1
          | some u => rw [hx] at h1; simpa [AV.conc, SV.conc] using h1
        have h3 : ((l.toArray[g.1]?).bind (·.dst)).bind (a.tmps[·]?) = some (.bool b) := by
          unfold slotOf at hs
          rw [nth_eq] at hs
          simp only [List.getElem?_toArray]
          cases ho : l[g.1]? with
          | none => rw [ho] at hs; cases hs
          | some o' => rw [ho] at hs; simp only at hs; simp [hs, h2]
        simp only [yielded, h3]
        cases b <;> cases g.2 <;> rfl
      · rename_i l' hb
        cases h
        rw [hg]
        have h1 := hF.val s _ hb
        have h2 : ∀ v, a.tmps[s]? = some v → v = .tuple (l'.map (TV.conc ρ)).toArray := fun v hv => by
          simp only [Array.getD_eq_getD_getElem?, hv] at h1
          exact h1
        have h3 : yielded l.toArray a.tmps g.1 = none := by
          unfold slotOf at hs
          rw [nth_eq] at hs
          unfold yielded
          simp only [List.getElem?_toArray]
          cases ho : l[g.1]? with
          | none => rw [ho] at hs; cases hs
          | some o' =>
            rw [ho] at hs
            simp only at hs
            simp only [Option.bind_some, hs]
            cases hx : a.tmps[s]? with
            | none => rfl
            | some v => rw [h2 v hx]
        simp only [h3]
        cases g.2 <;> rfl
      · cases h
    · cases h
theorem Inv.put {ρ : Rho} {a : Act} {w : World} {d : Option Nat} {v : AV} {σ' : St} (hf : FInv N ρ σ'.fr σ'.nx a) (hh : HInv E ρ σ'.H σ'.nx w) (hd : inFrame N d = true) (hk : ∀ k ∈ v.keys, k < σ'.nx) :
    Inv E N ρ (putA σ' d v) (a.put d (v.conc ρ)) w := by
  cases d with
  | none => exact ⟨hf, hh⟩
  | some d => exact ⟨hf.put (nblt hd) hk, hh⟩
theorem w_b {l0 : List Oper} (h : Q .normal σ) : awpL P E N l0 Q [] σ := fun ρ _ _ hI => ⟨ρ, σ, hI, h⟩
theorem w_H {l0 rest : List Oper} {o : Oper} {R : AV → (Nat → Option Blk) → Nat → Prop} (hw : wantA l0 σ.fr o = some true) (hd : inFrame N o.dst = true) (ho : OpR P o E N σ R)
    (h : ∀ v H' nx', R v H' nx' → awpL P E N l0 Q rest (putA ⟨σ.fr, H', nx'⟩ o.dst v)) : awpL P E N l0 Q (o :: rest) σ := fun ρ a w hI => by
  refine wpList_step fun K hK => ?_
  rw [wantA_sound hI.f hw, if_pos rfl]
  refine ho ρ a w hI K _ fun ρ' w' v H' nx' hR hH hρ hn hk => hK _ _ ?_
  exact h v H' nx' hR ρ' _ w' (Inv.put (σ' := ⟨σ.fr, H', nx'⟩) (hI.f.mono hρ hn) hH hd hk)
theorem w_a (hT : Tab P tab) {l0 rest : List Oper} {o : Oper} {c : Prop} {fr' : Nat → Option AV} {H' : Nat → Option Blk} {nx' : Nat} (hw : wantA l0 fr o = some true) (hd : inFrame N o.dst = true) (hs : stepA tab fr H nx o = some (c, fr', H', nx')) (hc : c)
    (h : awpL P E N l0 Q rest ⟨fr', H', nx'⟩) : awpL P E N l0 Q (o :: rest) ⟨fr, H, nx⟩ := by
  unfold stepA at hs
  split at hs
  · rename_i c' v hr
    have key : ∀ σ', putA ⟨fr, H, nx⟩ o.dst v = σ' → c' → awpL P E N l0 Q rest σ' → awpL P E N l0 Q (o :: rest) ⟨fr, H, nx⟩ := fun σ' e hc h =>
      w_H (σ := ⟨fr, H, nx⟩) hw hd (OpR.pure hT hr hc) fun v H' nx' ⟨e1, e2, e3⟩ => by subst e1 e2 e3; rw [e]; exact h
    split at hs
    · rename_i d hdst
      cases hs
      exact key _ (by rw [hdst]; rfl) hc h
    · rename_i hdst
      cases hs
      exact key _ (by rw [hdst]; rfl) hc h
  · split at hs
    · rename_i t x d ho hdst
      split at hs
      · rename_i v H1 hr
        cases hs
        exact w_H (σ := ⟨fr, H, nx⟩) hw hd (sBox_sound ho hr) fun v H' nx' ⟨e1, e2, e3⟩ => by subst e1 e2 e3; rw [hdst]; exact h
      · cases hs
    · rename_i t d ho hdst
      split at hs
      · rename_i v H1 hr
        cases hs
        exact w_H (σ := ⟨fr, H, nx⟩) hw hd (sAlloc_sound hT ho hr) fun v H' nx' ⟨e1, e2, e3⟩ => by subst e1 e2 e3; rw [hdst]; exact h
      · cases hs
    · rename_i t x y d ho hdst
      split at hs
      · rename_i c' v H1 hr
        cases hs
        exact w_H (σ := ⟨fr, H, nx⟩) hw hd (sMake_sound hT ho hr hc) fun v H' nx' ⟨e1, e2, e3⟩ => by subst e1 e2 e3; rw [hdst]; exact h
      · cases hs
    · rename_i t n ps d ho hdst
      split at hs
      · rename_i v H1 hr
        cases hs
        exact w_H (σ := ⟨fr, H, nx⟩) hw hd (sBuildSlice_sound hT ho hr) fun v H' nx' ⟨e1, e2, e3⟩ => by subst e1 e2 e3; rw [hdst]; exact h
      · split at hs
        · rename_i c' v H1 hr
          cases hs
          exact w_H (σ := ⟨fr, H, nx⟩) hw hd (sBuildRows_sound hT ho hr hc) fun v H' nx' ⟨e1, e2, e3⟩ => by subst e1 e2 e3; rw [hdst]; exact h
        · cases hs
    · rename_i t x d ho hdst
      split at hs
      · rename_i c' v H1 hr
        cases hs
        exact w_H (σ := ⟨fr, H, nx⟩) hw hd (sLoadR_sound hT ho hr hc) fun v H' nx' ⟨e1, e2, e3⟩ => by subst e1 e2 e3; rw [hdst]; exact h
      · cases hs
    · rename_i t x y ho hdst
      split at hs
      · rename_i c' H1 hr
        cases hs
        exact w_H (σ := ⟨fr, H, nx⟩) hw hd (sStore_sound hT ho hdst hr hc) fun v H' nx' ⟨e1, e2, e3⟩ => by subst e1 e2 e3; rw [hdst]; exact h
      · cases hs
    · cases hs
theorem w_x (hT : Tab P tab) {l0 rest : List Oper} {o : Oper} {c : Prop} {et k sz n m d : Nat} {e' : Elts} {t : TypeId} {x y : Operand} (ho : o.op = .call ⟨.builtin .append, #[x, y], #[t, t]⟩) (hdst : o.dst = some d)
    (hw : wantA l0 fr o = some true) (hd : inFrame N o.dst = true) (hs : sAppend tab fr H nx t x y = some (c, appOut H nx et k sz n e' m)) (hc : c)
    (h : ∀ cap, n + m ≤ cap → awpL P E N l0 Q rest ⟨upd fr d (.one (.sl nx sz 0 (n + m) cap)), upd (upd H k .dead) nx (.own et cap e'), nx + 1⟩) : awpL P E N l0 Q (o :: rest) ⟨fr, H, nx⟩ :=
  w_H (σ := ⟨fr, H, nx⟩) hw hd (sAppend_sound hT ho hs hc) fun _ _ _ ⟨cap, h1, e1, e2, e3⟩ => by subst e1 e2 e3; rw [hdst]; exact h cap h1
theorem w_c {l0 rest : List Oper} {o : Oper} {d : Nat} (hw : wantA l0 fr o = some false) (hd : o.dst = some d) (h : awpL P E N l0 Q rest ⟨upd fr d (.tup []), H, nx⟩) : awpL P E N l0 Q (o :: rest) ⟨fr, H, nx⟩ := fun ρ a w hI => by
  refine wpList_step fun K hK => ?_
  rw [wantA_sound hI.f hw, if_neg (by simp), hd]
  exact hK _ _ (h ρ _ w ⟨hI.f.skip d, hI.h⟩)
theorem FInv.pin {ρ : Rho} {fr : Nat → Option AV} {nx : Nat} {a : Act} (h : FInv N ρ fr nx a) {s : Nat} {v v' : AV} (hs : fr s = some v) (e : v' = v) : FInv N ρ (upd fr s v') nx a := by
  subst e
  have : upd fr s v' = fr := by
    funext x
    by_cases c : x = s
    · subst c; rw [upd_same, hs]
    · rw [upd_ne c]
  rw [this]; exact h
theorem w_p {l0 rest : List Oper} {o : Oper} {s : Nat} {b : Bool} {g : Nat × Bool} (_hg : o.guard = some g) (_hs : slotOf l0 g.1 = some s) (hb : fr s = some (.one (.bool b)))
    (ht : b = true → awpL P E N l0 Q (o :: rest) ⟨upd fr s (.one (.bool true)), H, nx⟩)
    (hf : b = false → awpL P E N l0 Q (o :: rest) ⟨upd fr s (.one (.bool false)), H, nx⟩) : awpL P E N l0 Q (o :: rest) ⟨fr, H, nx⟩ := fun ρ a w hI => by
  cases b with
  | true => exact ht rfl ρ a w ⟨hI.f.pin hb rfl, hI.h⟩
  | false => exact hf rfl ρ a w ⟨hI.f.pin hb rfl, hI.h⟩
theorem w_h {id : Nat} {l : List Oper} (h : awpL P E N l Q l σ) : awp P E N (.region id l.toArray false) Q σ := fun ρ a w hI => wp_region_lit (h ρ a w hI)
theorem w_g {x y : Code} (h : awp P E N x (thenQ (awp P E N y Q) Q) σ) : awp P E N (.seq x y) Q σ := fun ρ a w hI => by
  refine wp_seq (Code.wp_mono (fun e a' w' hq => ?_) (h ρ a w hI))
  obtain ⟨ρ', σ', hI', hq⟩ := hq
  cases e with
  | normal => exact hq ρ' a' w' hI'
  | exit id => exact ⟨ρ', σ', hI', hq⟩
  | goto l => exact ⟨ρ', σ', hI', hq⟩
  | ret => exact ⟨ρ', σ', hI', hq⟩
  | panic ch => exact ⟨ρ', σ', hI', hq⟩
  | outgrown => exact ⟨ρ', σ', hI', hq⟩
theorem w_r {x : Operand} {t e : Code} {b : Bool} (hb : ev fr x = some (.one (.bool b))) (ht : b = true → awp P E N t Q ⟨fr, H, nx⟩) (hf : b = false → awp P E N e Q ⟨fr, H, nx⟩) : awp P E N (.cond x t e) Q ⟨fr, H, nx⟩ := fun ρ a w hI => by
  have h1 := (ev_sound hI.f hI.h.nil hI.h.hb.pos hb).1
  exact wp_cond_split h1 (fun h => ht h ρ a w hI) (fun h => hf h ρ a w hI)
theorem w_m {x : Operand} {t e : Code} (hb : ev fr x = some (.one (.bool true))) (ht : awp P E N t Q ⟨fr, H, nx⟩) : awp P E N (.cond x t e) Q ⟨fr, H, nx⟩ := w_r hb (fun _ => ht) (fun h => by cases h)
theorem w_n {x : Operand} {t e : Code} (hb : ev fr x = some (.one (.bool false))) (hf : awp P E N e Q ⟨fr, H, nx⟩) : awp P E N (.cond x t e) Q ⟨fr, H, nx⟩ := w_r hb (fun h => by cases h) (fun _ => hf)
theorem w_k (h : Q .normal σ) : awp P E N .skip Q σ := fun ρ _ _ hI => wp_skip ⟨ρ, σ, hI, h⟩
theorem w_j {id : Nat} (h : Q (.exit id) σ) : awp P E N (.exit id) Q σ := fun ρ _ _ hI => wp_exit ⟨ρ, σ, hI, h⟩
theorem w_l (h : Q .ret σ) : awp P E N .ret Q σ := fun ρ _ _ hI => wp_ret ⟨ρ, σ, hI, h⟩
theorem w_i {id : Nat} {c : Code} (h : awp P E N c (blockQ id Q) σ) : awp P E N (.block id c) Q σ := fun ρ a w hI => by
  refine wp_block (Code.wp_mono (fun e a' w' hq => ?_) (h ρ a w hI))
  obtain ⟨ρ', σ', hI', hq⟩ := hq
  cases e with
  | normal => exact ⟨ρ', σ', hI', hq⟩
  | exit i =>
    unfold blockQ at hq
    simp only at hq
    unfold Exit.inBlock
    by_cases e : i = id
    · subst e
      simp only [if_true]
      have : Nat.beq i i = true := by simp
      rw [this] at hq
      exact ⟨ρ', σ', hI', hq⟩
    · simp only [if_neg e]
      rw [nbeq_ne e] at hq
      exact ⟨ρ', σ', hI', hq⟩
  | goto l => exact ⟨ρ', σ', hI', hq⟩
  | ret => exact ⟨ρ', σ', hI', hq⟩
  | panic ch => exact ⟨ρ', σ', hI', hq⟩
  | outgrown => exact ⟨ρ', σ', hI', hq⟩
def mp (m : List (Nat × Nat)) (k : Nat) : Nat := match lk m k with
  | some x => x
  | none => k
def WeakF (fr : Nat → Option AV) (m : Nat → Nat) : List (Nat × AV) → Prop
  | [] => True
  | p :: r => fr p.1 = some (p.2.ren m) ∧ WeakF fr m r
def WeakH (H : Nat → Option Blk) (m : Nat → Nat) : List (Nat × Blk) → Prop
  | [] => True
  | p :: r => H (m p.1) = some (p.2.ren m) ∧ WeakH H m r
def leB (n : Nat) (l : List Nat) : Bool := l.all fun k => Nat.blt k n
theorem leB_sound {n : Nat} {l : List Nat} (h : leB n l = true) : ∀ k ∈ l, k < n := fun k hk => nblt (List.all_eq_true.1 h k hk)
def okKeys (n0 n : Nat) (m : Nat → Nat) : List (Nat × Blk) → Bool
  | [] => true
  | p :: r => Nat.blt p.1 n && (bif Nat.blt p.1 n0 then Nat.beq (m p.1) p.1 else (Nat.ble n0 (m p.1) || p.2.isOwn)) && r.all (fun q => Nat.beq p.1 q.1 || !Nat.beq (m p.1) (m q.1)) && okKeys n0 n m r
def Blk.ks : Blk → List Nat
  | .dead => []
  | .ro (.lit l) => keysOf l
  | .own _ _ (.lit l) => keysOf l
  | .al _ (.lit l) => keysOf l
  | _ => []
theorem ints_keys {l : List Int} : keysOf (l.map SV.int) = [] := by simp [keysOf, SV.keys]
theorem bytes_keys {l : List Int} : keysOf (l.map SV.u8) = [] := by simp [keysOf, SV.keys]
theorem i2_keys {l : List (Int × Int)} : keysOf (l.flatMap sv2) = [] := by
  apply List.eq_nil_iff_forall_not_mem.2
  intro k hk
  obtain ⟨s, hs, hk⟩ := List.mem_flatMap.1 hk
  obtain ⟨p, _, hp⟩ := List.mem_flatMap.1 hs
  simp [sv2] at hp
  rcases hp with rfl | rfl <;> simp [SV.keys] at hk
theorem i3_keys {l : List (Int × Int × Int)} : keysOf (l.flatMap sv3) = [] := by
  apply List.eq_nil_iff_forall_not_mem.2
  intro k hk
  obtain ⟨s, hs, hk⟩ := List.mem_flatMap.1 hk
  obtain ⟨p, _, hp⟩ := List.mem_flatMap.1 hs
  simp [sv3] at hp
  rcases hp with rfl | rfl | rfl <;> simp [SV.keys] at hk
theorem Blk.ks_eq {b : Blk} : b.keys = b.ks := by
  cases b with
  | dead => rfl
  | ro e => cases e <;> simp [Blk.keys, Blk.ks, Elts.keys, Elts.all, ints_keys, i2_keys, i3_keys, bytes_keys, rows_keys, vals_keys, mats_keys]
  | own t c e => cases e <;> simp [Blk.keys, Blk.ks, Elts.keys, Elts.all, ints_keys, i2_keys, i3_keys, bytes_keys, rows_keys, vals_keys, mats_keys]
  | al a e => cases e <;> simp [Blk.keys, Blk.ks, Elts.keys, Elts.all, ints_keys, i2_keys, i3_keys, bytes_keys, rows_keys, vals_keys, mats_keys]
  | tok t q l => rfl
theorem Elts.all_ren {m : Nat → Nat} : ∀ (e : Elts), (e.ren m).all = e.all.map (SV.ren m)
  | .lit _ => rfl
  | .ints l => by simp [Elts.ren, Elts.all, SV.ren]
  | .i2 l => by simp only [Elts.ren, Elts.all, List.map_flatMap]; rfl
  | .i3 l => by simp only [Elts.ren, Elts.all, List.map_flatMap]; rfl
  | .bytes l => by simp [Elts.ren, Elts.all, SV.ren]
  | .rows q f l => by cases q <;> (simp only [Elts.ren, Elts.all, List.map_flatMap]; rfl)
  | .vals f l => by simp only [Elts.ren, Elts.all, List.map_flatMap]; rfl
  | .mats f l => by simp only [Elts.ren, Elts.all, List.map_flatMap]; rfl
theorem Elts.len_ren {m : Nat → Nat} : ∀ (e : Elts), (e.ren m).len = e.len
  | .lit _ => rfl
  | .ints _ => rfl
  | .i2 _ => rfl
  | .i3 _ => rfl
  | .bytes _ => rfl
  | .rows _ _ _ => rfl
  | .vals _ _ => rfl
  | .mats _ _ => rfl
theorem Elts.sz_ren {m : Nat → Nat} : ∀ (e : Elts), (e.ren m).sz = e.sz
  | .lit _ => by simp [Elts.ren, Elts.sz]
  | .ints _ => rfl
  | .i2 _ => rfl
  | .i3 _ => rfl
  | .bytes _ => rfl
  | .rows _ _ _ => rfl
  | .vals _ _ => rfl
  | .mats _ _ => rfl
theorem Elts.rds_ren {m : Nat → Nat} (e : Elts) : (e.ren m).rds = e.rds := by cases e <;> rfl
theorem Blk.rds_ren {m : Nat → Nat} {b : Blk} : (b.ren m).rds = b.rds := by cases b <;> first | rfl | exact Elts.rds_ren _
theorem Blk.isAl_ren {m : Nat → Nat} {b : Blk} : (b.ren m).isAl = b.isAl := by cases b <;> rfl
theorem Blk.Far_ren {m : Nat → Nat} {b : Blk} {g : Nat} : (b.ren m).Far g ↔ b.Far g := by
  cases b with
  | tok t q l => exact Iff.rfl
  | dead => exact Iff.rfl
  | ro e => simp only [Blk.Far, Blk.ren, Blk.rds, Elts.rds_ren]
  | own t c e => simp only [Blk.Far, Blk.ren, Blk.rds, Elts.rds_ren]
  | al a e => simp only [Blk.Far, Blk.ren, Blk.rds, Elts.rds_ren]
theorem BlkOK.ren {ρ : Rho} {m : Nat → Nat} {k : Nat} {w : World} {b : Blk} (h : BlkOK ρ (m k) w (b.ren m)) : BlkOK (fun k => ρ (m k)) k w b := by
  cases b with
  | dead => trivial
  | ro e =>
    simp only [Blk.ren, BlkOK, Elts.len_ren, Elts.all_ren] at h ⊢
    cases hp : ρ (m k) with
    | none => rw [hp] at h; exact h
    | some p =>
      rw [hp] at h
      refine ⟨h.1, fun j u hu => ?_⟩
      have := h.2 j (u.ren m) (by simp [hu])
      rw [this, SV.conc_ren]
  | own t c e =>
    simp only [Blk.ren, BlkOK, Elts.len_ren, Elts.all_ren, Elts.sz_ren, cells_ren] at h ⊢
    exact h
  | al a e =>
    simp only [Blk.ren, BlkOK, Elts.len_ren, Elts.all_ren] at h ⊢
    refine ⟨h.1, ?_⟩
    replace h := h.2
    cases hp : ρ (m k) with
    | none => rw [hp] at h; exact h
    | some p =>
      rw [hp] at h
      refine ⟨h.1, fun j u hu => ?_⟩
      have := h.2 j (u.ren m) (by simp [hu])
      rw [this, SV.conc_ren]
  | tok t q l => exact h
theorem Blk.live_ren {m : Nat → Nat} {b : Blk} : (b.ren m).live = b.live := by
  cases b with
  | dead => rfl
  | ro e => simp only [Blk.ren, Blk.live, Elts.len_ren]
  | own t c e => rfl
  | al a e => simp only [Blk.ren, Blk.live, Elts.len_ren]
  | tok t q l => rfl
theorem Blk.own_ren {m : Nat → Nat} {b : Blk} : (b.ren m).isOwn = b.isOwn := by cases b <;> rfl
theorem Blk.keys_ren {m : Nat → Nat} {b : Blk} : (b.ren m).keys = b.keys.map m := by
  cases b <;> simp [Blk.ren, Blk.keys, Elts.keys, Elts.all_ren, keysOf_ren]
theorem WeakF.at_ {fr : Nat → Option AV} {m : Nat → Nat} : ∀ {l : List (Nat × AV)} {t : Nat} {v : AV}, WeakF fr m l → lk l t = some v → fr t = some (v.ren m) ∧ (t, v) ∈ l
  | [], _, _, _, h => by cases h
  | p :: r, t, v, h, hl => by
    unfold lk at hl
    cases e : Nat.beq t p.1 with
    | true =>
      rw [e] at hl
      have e := Nat.eq_of_beq_eq_true e
      cases hl; subst e
      exact ⟨h.1, by simp⟩
    | false =>
      rw [e] at hl
      obtain ⟨h1, h2⟩ := WeakF.at_ h.2 hl
      exact ⟨h1, by simp [h2]⟩
theorem WeakH.at_ {H : Nat → Option Blk} {m : Nat → Nat} : ∀ {l : List (Nat × Blk)} {t : Nat} {v : Blk}, WeakH H m l → lk l t = some v → H (m t) = some (v.ren m)
  | [], _, _, _, h => by cases h
  | p :: r, t, v, h, hl => by
    unfold lk at hl
    cases e : Nat.beq t p.1 with
    | true =>
      rw [e] at hl
      have e := Nat.eq_of_beq_eq_true e
      cases hl; subst e
      exact h.1
    | false => rw [e] at hl; exact WeakH.at_ h.2 hl
theorem lk_mem {α : Type} : ∀ {l : List (Nat × α)} {t : Nat} {v : α}, lk l t = some v → (t, v) ∈ l
  | [], _, _, h => by cases h
  | p :: r, t, v, hl => by
    unfold lk at hl
    cases e : Nat.beq t p.1 with
    | true =>
      rw [e] at hl
      have e := Nat.eq_of_beq_eq_true e
      cases hl; subst e
      simp
    | false => rw [e] at hl; have := lk_mem hl; simp [this]
theorem okKeys_sound {n0 n : Nat} {m : Nat → Nat} : ∀ {l : List (Nat × Blk)}, okKeys n0 n m l = true →
    (∀ p ∈ l, p.1 < n ∧ (p.1 < n0 → m p.1 = p.1) ∧ (n0 ≤ p.1 → n0 ≤ m p.1 ∨ p.2.isOwn = true)) ∧ ∀ p ∈ l, ∀ q ∈ l, p.1 ≠ q.1 → m p.1 ≠ m q.1
  | [], _ => ⟨fun _ h => by (cases h), fun _ h => by (cases h)⟩
  | p :: r, h => by
    simp only [okKeys, Bool.and_eq_true] at h
    obtain ⟨⟨⟨h1, h2⟩, h3⟩, h4⟩ := h
    obtain ⟨i1, i2⟩ := okKeys_sound h4
    have hp : p.1 < n ∧ (p.1 < n0 → m p.1 = p.1) ∧ (n0 ≤ p.1 → n0 ≤ m p.1 ∨ p.2.isOwn = true) := by
      refine ⟨nblt h1, fun hlt => ?_, fun hge => ?_⟩
      · rw [show Nat.blt p.1 n0 = true by rw [Nat.blt_eq]; exact hlt] at h2
        exact Nat.eq_of_beq_eq_true h2
      · cases c : Nat.blt p.1 n0 with
        | true => have := nblt c; omega
        | false =>
          rw [c] at h2
          exact (Bool.or_eq_true _ _ ▸ h2).imp_left Nat.le_of_ble_eq_true
    have h3' : ∀ q ∈ r, p.1 ≠ q.1 → m p.1 ≠ m q.1 := fun q hq hne e => by
      have := List.all_eq_true.1 h3 q hq
      simp only [Bool.or_eq_true, Bool.not_eq_true'] at this
      rcases this with c | c
      · exact hne (Nat.eq_of_beq_eq_true c)
      · exact nbeq_of c e
    refine ⟨fun q hq => ?_, fun q hq q' hq' hne => ?_⟩
    · rcases List.mem_cons.1 hq with rfl | hq
      · exact hp
      · exact i1 q hq
    · rcases List.mem_cons.1 hq with rfl | hq1
      · rcases List.mem_cons.1 hq' with rfl | hq2
        · exact absurd rfl hne
        · exact h3' q' hq2 hne
      · rcases List.mem_cons.1 hq' with rfl | hq2
        · exact fun e => h3' q hq1 (Ne.symm hne) e.symm
        · exact i2 q hq1 q' hq2 hne
def okM (n0 : Nat) (m : List (Nat × Nat)) : Bool := m.all fun p => Nat.ble n0 p.1
theorem okM_sound {n0 : Nat} {m : List (Nat × Nat)} (h : okM n0 m = true) {k : Nat} (hk : k < n0) : mp m k = k := by
  unfold mp
  split
  · rename_i x hx
    have := Nat.le_of_ble_eq_true (List.all_eq_true.1 h _ (lk_mem hx))
    simp at this; omega
  · rfl
def okWeak (n0 n : Nat) (m : List (Nat × Nat)) (fl : List (Nat × AV)) (hl : List (Nat × Blk)) : Bool :=
  okM n0 m && okKeys n0 n (mp m) hl && leB n (fl.flatMap fun p => p.2.keys) && leB n (hl.flatMap fun p => p.2.ks) && Nat.ble n0 n
theorem HInv.weak {ρ : Rho} {H : Nat → Option Blk} {nx n : Nat} {w : World} (h : HInv E ρ H nx w) {n0 : Nat} (hn : E.n0 = n0) {m : List (Nat × Nat)} {hl : List (Nat × Blk)}
    (h2 : WeakH H (mp m) hl) (hm : okM n0 m = true) (hk : okKeys n0 n (mp m) hl = true) (hks : leB n (hl.flatMap fun p => p.2.ks) = true) (hle : n0 ≤ n) : HInv E (fun k => ρ (mp m k)) (lk hl) n w := by
  subst hn
  obtain ⟨k1, k2⟩ := okKeys_sound hk
  refine ⟨by rw [okM_sound hm h.pos]; exact h.nil, fun k b hb => (h.blk _ _ (h2.at_ hb)).ren, fun k b hb => ⟨(k1 _ (lk_mem hb)).1, fun k' hk' => ?_⟩, fun k k' b b' p p' hb hb' ho hl' hne e e' => ?_, fun k b p hb hlv hal hk e => ?_, fun k b hb ho hk => ?_, h.keeps, fun k hk => ?_, hle, h.pos, fun k b hb x hx => h.rows _ _ (h2.at_ hb) x (by rw [Blk.rds_ren]; exact hx), fun k k' b b' p g hb hb' ho e hf => h.far _ _ _ _ p g (h2.at_ hb) (h2.at_ hb') (by rw [Blk.own_ren]; exact ho) e (Blk.Far_ren.2 hf), fun k k' t t' q q' l l' hb hb' hne => h.tt _ _ t t' q q' l l' (h2.at_ hb) (h2.at_ hb') (k2 _ (lk_mem hb) _ (lk_mem hb') hne), fun k t q l hb => h.tw _ t q l (h2.at_ hb), fun k k' t q l e p hb hb' hl e' => h.tr _ _ t q l (e.ren (mp m)) p (h2.at_ hb) (h2.at_ hb') (by rw [Elts.len_ren]; exact hl) e'⟩
  · rw [Blk.ks_eq] at hk'
    exact leB_sound hks k' (List.mem_flatMap.2 ⟨_, lk_mem hb, hk'⟩)
  · exact h.inj _ _ _ _ p p' (h2.at_ hb) (h2.at_ hb') (by rw [Blk.own_ren]; exact ho) (by rw [Blk.live_ren]; exact hl') (k2 _ (lk_mem hb) _ (lk_mem hb') hne) e e'
  · rcases Nat.lt_or_ge (mp m k) E.n0 with hlt | hge
    · have ho : b.isOwn = true := ((k1 _ (lk_mem hb)).2.2 hk).resolve_left (Nat.not_le.2 hlt)
      exact .inr (.inl ⟨mp m k, p, hlt, h.old _ _ (h2.at_ hb) (by rw [Blk.own_ren]; exact ho) hlt, by rw [← h.ent _ hlt]; exact e, rfl⟩)
    · exact h.new _ _ p (h2.at_ hb) (by rw [Blk.live_ren]; exact hlv) (by rw [Blk.isAl_ren]; exact hal) hge e
  · have := h.old _ _ (h2.at_ hb) (by rw [Blk.own_ren]; exact ho)
    rw [(k1 _ (lk_mem hb)).2.1 hk] at this
    exact this hk
  · show ρ (mp m k) = _
    rw [okM_sound hm hk]; exact h.ent k hk
theorem Inv.weak {ρ : Rho} {a : Act} {w : World} {n : Nat} (h : Inv E N ρ σ a w) {n0 : Nat} (hn : E.n0 = n0) {m : List (Nat × Nat)} {fl : List (Nat × AV)} {hl : List (Nat × Blk)}
    (h1 : WeakF σ.fr (mp m) fl) (h2 : WeakH σ.H (mp m) hl) (hk : okWeak n0 n m fl hl = true) : Inv E N (fun k => ρ (mp m k)) ⟨lk fl, lk hl, n⟩ a w := by
  simp only [okWeak, Bool.and_eq_true] at hk
  obtain ⟨⟨⟨⟨hm, hk⟩, hf⟩, hks⟩, hle⟩ := hk
  refine ⟨⟨h.f.defers, h.f.size, fun t v hv => ?_, fun t v hv k hk' => ?_⟩, h.h.weak hn h2 hm hk hks (Nat.le_of_ble_eq_true hle)⟩
  · rw [h.f.val t _ (h1.at_ hv).1, AV.conc_ren]
  · exact leB_sound hf k (List.mem_flatMap.2 ⟨_, (h1.at_ hv).2, hk'⟩)
structure Weak (n0 : Nat) (fr : Nat → Option AV) (H : Nat → Option Blk) (m : List (Nat × Nat)) (fl : List (Nat × AV)) (hl : List (Nat × Blk)) (n : Nat) : Prop where
  f : WeakF fr (mp m) fl
  h : WeakH H (mp m) hl
  ok : okWeak n0 n m fl hl = true
def loopQ {α : Type} (n0 : Nat) (pre : α → Prop) (mu : α → Nat) (F : α → List (Nat × AV)) (Hh : α → List (Nat × Blk)) (nx : Nat) (x : α) (Q : Post) : Post := fun e σ => match e with
  | .normal => ∃ m y, pre y ∧ mu y < mu x ∧ Weak n0 σ.fr σ.H m (F y) (Hh y) nx
  | e => Q e σ
theorem w_G {α : Type} {c : Code} {n0 : Nat} (hn : E.n0 = n0) (pre : α → Prop) (mu : α → Nat) (F : α → List (Nat × AV)) (Hh : α → List (Nat × Blk)) (nx1 : Nat) (m : List (Nat × Nat)) (x0 : α) (h0 : pre x0) (hw : Weak n0 fr H m (F x0) (Hh x0) nx1)
    (hr : ∀ x, pre x → awp P E N c (loopQ n0 pre mu F Hh nx1 x Q) ⟨lk (F x), lk (Hh x), nx1⟩) : awp P E N (.loop c) Q ⟨fr, H, nx⟩ := fun ρ a w hI => by
  refine wp_loop_ghost (fun k a' w' => ∃ x ρ', mu x = k ∧ pre x ∧ Inv E N ρ' ⟨lk (F x), lk (Hh x), nx1⟩ a' w') (mu x0) ⟨x0, _, rfl, h0, hI.weak hn hw.f hw.h hw.ok⟩ fun k a' w' ⟨x, ρ', hk, hp, hI'⟩ => ?_
  refine Code.wp_mono (fun e a2 w2 hq => ?_) (hr x hp ρ' a' w' hI')
  obtain ⟨ρ2, σ2, hI2, hq⟩ := hq
  cases e with
  | normal =>
    obtain ⟨m', y, hy, hlt, hw'⟩ := hq
    exact ⟨mu y, by omega, y, _, rfl, hy, hI2.weak hn hw'.f hw'.h hw'.ok⟩
  | exit id => exact ⟨ρ2, σ2, hI2, hq⟩
  | goto l => exact ⟨ρ2, σ2, hI2, hq⟩
  | ret => exact ⟨ρ2, σ2, hI2, hq⟩
  | panic ch => exact ⟨ρ2, σ2, hI2, hq⟩
  | outgrown => exact ⟨ρ2, σ2, hI2, hq⟩
def ownOf (Hin : List (Nat × Blk)) (k : Nat) : Prop := ∃ b, lk Hin k = some b ∧ b.isOwn = true
def tokOf (Hin : List (Nat × Blk)) (g : Nat) : Prop := ∃ k t q l, lk Hin k = some (.tok t q l) ∧ ∃ r ∈ l, ∃ p, r.a = some p ∧ p.1 = g
def envOf (w : World) (ρ : Rho) (Hin : List (Nat × Blk)) (n0 : Nat) : Env := ⟨w, ρ, n0, ownOf Hin, tokOf Hin⟩
def BackedE (all : List (Nat × Blk)) : Elts → Prop
  | .rows q true l => l = [] ∨ ∃ k t l', lk all k = some (.tok t q l') ∧ ∀ r ∈ l, r ∈ l'
  | .vals true l => l = [] ∨ ∃ k t l', lk all k = some (.tok t false l') ∧ ∀ r ∈ l, r.1 ∈ l'
  | .mats true l => l = [] ∨ ∃ k t l', lk all k = some (.tok t false l') ∧ ∀ r ∈ l, r.2.2 ∈ l'
  | _ => True
def Backed1 (all : List (Nat × Blk)) : Blk → Prop
  | .al _ _ => False
  | .ro e => BackedE all e
  | .own _ _ e => BackedE all e
  | _ => True
def BackedL (all : List (Nat × Blk)) : List (Nat × Blk) → Prop
  | [] => True
  | p :: r => Backed1 all p.2 ∧ BackedL all r
def Sealed (E : Env) (H : Nat → Option Blk) : Prop := ∀ k b, H k = some b → b.isAl = false ∧ ∀ g, b.Far g → Wr E g
theorem BackedL.at_ {all : List (Nat × Blk)} : ∀ {l : List (Nat × Blk)} {k : Nat} {b : Blk}, BackedL all l → lk l k = some b → Backed1 all b
  | [], _, _, _, h => by cases h
  | p :: r, k, b, h, hl => by
    unfold lk at hl
    cases e : Nat.beq k p.1 with
    | true => rw [e] at hl; cases hl; exact h.1
    | false => rw [e] at hl; exact BackedL.at_ h.2 hl
theorem BackedE.wr {ρ : Rho} {nx : Nat} {w : World} {all : List (Nat × Blk)} (h : HInv E ρ (lk all) nx w) {e : Elts} (hb : BackedE all e) {x : Bool × Row} (hx : x ∈ e.rds) {p : Nat × Nat} (hp : x.2.a = some p) : Wr E p.1 := by
  cases e with
  | rows q f l =>
    cases f with
    | false => cases hx
    | true =>
      obtain ⟨r, hr, rfl⟩ := List.mem_map.1 hx
      obtain rfl | ⟨k, t, l', h1, h2⟩ := hb
      · cases hr
      exact h.tw k t q l' h1 r (h2 r hr) p hp
  | vals f l =>
    cases f with
    | false => cases hx
    | true =>
      obtain ⟨r, hr, rfl⟩ := List.mem_map.1 hx
      obtain rfl | ⟨k, t, l', h1, h2⟩ := hb
      · cases hr
      exact h.tw k t false l' h1 r.1 (h2 r hr) p hp
  | mats f l =>
    cases f with
    | false => cases hx
    | true =>
      obtain ⟨r, hr, rfl⟩ := List.mem_map.1 hx
      obtain rfl | ⟨k, t, l', h1, h2⟩ := hb
      · cases hr
      exact h.tw k t false l' h1 r.2.2 (h2 r hr) p hp
  | _ => cases hx
theorem BackedL.sealed {ρ : Rho} {nx : Nat} {w : World} {all : List (Nat × Blk)} (h : HInv E ρ (lk all) nx w) (hb : BackedL all all) : Sealed E (lk all) := fun k b hk => by
  have h1 := hb.at_ hk
  cases b with
  | al a e => exact h1.elim
  | dead => exact ⟨rfl, fun g ⟨x, hx, _⟩ => by cases hx⟩
  | ro e => exact ⟨rfl, fun g ⟨x, hx, _, p, hp, e⟩ => e ▸ BackedE.wr h h1 hx hp⟩
  | own t c e => exact ⟨rfl, fun g ⟨x, hx, _, p, hp, e⟩ => e ▸ BackedE.wr h h1 hx hp⟩
  | tok t q l => exact ⟨rfl, fun g ⟨r, hr, p, hp, e⟩ => e ▸ h.tw k t q l hk r hr p hp⟩
structure Does (P : Program) (f : FuncId) (args : List AV) (Hin : List (Nat × Blk)) (n0 : Nat) (Out : AV → List (Nat × Blk) → Nat → Prop) : Prop where
  fn : ∃ fn, P.funcs[f]? = some fn ∧ (fn.name == "runtime.NumGoroutine") = false ∧ fn.body.isNone = false
  calls : ∀ ρ w, HInv (envOf w ρ Hin n0) ρ (lk Hin) n0 w → (∀ v ∈ args, ∀ k ∈ v.keys, k < n0) →
    Calls P f (args.map (AV.conc ρ)).toArray w fun e w' => ∃ ρ' v Hout n1, Out v Hout n1 ∧ e = .returned (v.conc ρ') ∧ HInv (envOf w ρ Hin n0) ρ' (lk Hout) n1 w' ∧ (∀ k ∈ v.keys, k < n1) ∧ Sealed (envOf w ρ Hin n0) (lk Hout)
def argFr : List AV → Nat → Nat → Option AV
  | [], _ => fun _ => none
  | v :: r, i => fun x => bif Nat.beq x i then some v else argFr r (i + 1) x
theorem argFr_at : ∀ {l : List AV} {i t : Nat} {v : AV}, argFr l i t = some v → ∃ j, t = i + j ∧ l[j]? = some v
  | [], _, _, _, h => by cases h
  | u :: r, i, t, v, h => by
    unfold argFr at h
    cases e : Nat.beq t i with
    | true =>
      rw [e] at h
      have e := Nat.eq_of_beq_eq_true e
      cases h
      exact ⟨0, by omega, rfl⟩
    | false =>
      rw [e] at h
      obtain ⟨j, h1, h2⟩ := argFr_at h
      exact ⟨j + 1, by omega, by simpa using h2⟩
def resOne (tab : List (Nat × TD)) (fr : Nat → Option AV) (H : Nat → Option Blk) : ResultVar → Option (Prop × AV)
  | .tmp t => match fr t with
    | some v => some (True, v)
    | none => none
  | .cell t T => pLoad tab fr H T (.tmp t)
def AV.tv : AV → Option TV
  | .one s => some (.one s)
  | .agg l => some (.agg l)
  | .tup _ => none
def resMany (tab : List (Nat × TD)) (fr : Nat → Option AV) (H : Nat → Option Blk) : List ResultVar → Option (Prop × List TV)
  | [] => some (True, [])
  | r :: rs => match resOne tab fr H r, resMany tab fr H rs with
    | some (c, u), some (c', l) => match u.tv with
      | some v => some (c ∧ c', v :: l)
      | none => none
    | _, _ => none
def resA (tab : List (Nat × TD)) (fr : Nat → Option AV) (H : Nat → Option Blk) : List ResultVar → Option (Prop × AV)
  | [r] => resOne tab fr H r
  | rs => match resMany tab fr H rs with
    | some (c, l) => some (c, .tup l)
    | none => none
def resV (a : Act) : ResultVar → Sem Value
  | .tmp t => pure (a.tmps.getD t undef)
  | .cell x t => do loadVar t (← asAddr (a.tmps.getD x undef))
theorem resOne_sound (hT : Tab P tab) {ρ : Rho} {a : Act} {w : World} (hI : Inv E N ρ σ a w) {r : ResultVar} {c : Prop} {v : AV} (h : resOne tab σ.fr σ.H r = some (c, v)) (hc : c) :
    (resV a r).run P w = .ok (v.conc ρ) w ∧ ∀ k ∈ v.keys, k < σ.nx := by
  cases r with
  | tmp t =>
    simp only [resOne] at h
    split at h
    · rename_i u hu
      cases h
      refine ⟨?_, hI.f.key t _ hu⟩
      rw [resV, hI.f.val t _ hu]; rfl
    · cases h
  | cell t T =>
    simp only [resOne] at h
    obtain ⟨h1, h2⟩ := pLoad_sound (o := ⟨none, .load T (.tmp t), 0, "", #[], none⟩) hT.ok rfl hI.f hI.h.hb h hc
    refine ⟨?_, h2⟩
    have hp : ∃ k sz i f, σ.fr t = some (.one (.ptr k sz i f)) := by
      unfold pLoad at h
      split at h
      · rename_i d k sz i f hd hx
        exact ⟨k, sz, i, f, hx⟩
      · cases h
    obtain ⟨k, sz, i, f, hx⟩ := hp
    have hv := hI.f.val t _ hx
    simp only [execOp, Instr.loadAt] at h1
    have he : a.eval (.tmp t) = a.tmps.getD t undef := rfl
    rw [he, hv] at h1
    simp only [resV, hv]
    simp only [AV.conc, SV.conc] at h1 ⊢
    cases hadr : adr ρ k (i * sz + f) with
    | none => rw [hadr] at h1; simp [Instr.sureAddr, stuck] at h1
    | some ad =>
      rw [hadr] at h1
      simp only [Instr.sureAddr, Sem.run_bind, Sem.run_pure, Result.andThen_ok] at h1
      simp only [asAddr, Sem.run_bind, Sem.run_pure, Result.andThen_ok]
      cases hr : (loadVar T ad).run P w with
      | ok x w' =>
        rw [hr] at h1
        simp at h1
        rw [h1.1, h1.2]
      | halt x w' => rw [hr] at h1; simp at h1
theorem resMany_sound (hT : Tab P tab) {ρ : Rho} {a : Act} {w : World} (hI : Inv E N ρ σ a w) : ∀ {rs : List ResultVar} {c : Prop} {l : List TV}, resMany tab σ.fr σ.H rs = some (c, l) → c →
    (rs.mapM (resV a)).run P w = .ok (l.map (TV.conc ρ)) w ∧ ∀ v ∈ l, ∀ k ∈ v.keys, k < σ.nx
  | [], c, l, h, _ => by cases h; exact ⟨by simp, by simp⟩
  | r :: rs, c, l, h, hc => by
    unfold resMany at h
    split at h
    · rename_i c1 p c2 q hp hq
      split at h
      · rename_i v hv
        cases h
        obtain ⟨h1, h2⟩ := resOne_sound hT hI hp hc.1
        obtain ⟨h3, h4⟩ := resMany_sound hT hI hq hc.2
        have h5 : p.conc ρ = v.conc ρ ∧ p.keys = v.keys := by
          cases p <;> cases hv <;> exact ⟨rfl, rfl⟩
        refine ⟨?_, fun u hu k hk => ?_⟩
        · rw [List.mapM_cons, Sem.run_bind, h1]
          simp only [Result.andThen_ok, Sem.run_bind, h3, Sem.run_pure, List.map_cons, h5.1]
        · rcases List.mem_cons.1 hu with rfl | hu
          · exact h2 k (by rw [h5.2]; exact hk)
          · exact h4 u hu k hk
      · cases h
    · cases h
theorem resA_sound (hT : Tab P tab) {ρ : Rho} {a : Act} {w : World} (hI : Inv E N ρ σ a w) {fn : Func} {c : Prop} {v : AV} (h : resA tab σ.fr σ.H fn.results.toList = some (c, v)) (hc : c) :
    (results fn a.tmps).run P w = .ok (v.conc ρ) w ∧ ∀ k ∈ v.keys, k < σ.nx := by
  have hm : ∀ {rs : List ResultVar} {vs : List Value}, fn.results.toList = rs → (rs.mapM (resV a)).run P w = .ok vs w →
      (results fn a.tmps).run P w = .ok (if h : vs.toArray.size = 1 then vs.toArray[0] else .tuple vs.toArray) w := fun {rs vs} e hr => by
    have e' : fn.results = rs.toArray := by rw [← e]
    have h0 : results fn a.tmps = (do let vs ← fn.results.mapM (resV a); pure (if h : vs.size = 1 then vs[0] else .tuple vs)) := rfl
    rw [h0, e', Sem.run_bind, List.mapM_toArray]
    simp [hr]
  unfold resA at h
  split at h
  · rename_i r hr
    obtain ⟨h1, h2⟩ := resOne_sound hT hI h hc
    refine ⟨?_, h2⟩
    have := hm (rs := [r]) (vs := [v.conc ρ]) hr (by simp [h1])
    rw [this]; simp
  · rename_i rs hrs
    split at h
    · rename_i c1 p hp
      cases h
      obtain ⟨h1, h2⟩ := resMany_sound hT hI hp hc
      refine ⟨?_, fun k hk => ?_⟩
      · rw [hm rfl h1]
        have hl : ∀ {l : List ResultVar} {q : Prop × List TV}, resMany tab σ.fr σ.H l = some q → q.2.length = l.length := fun {l} => by
          induction l with
          | nil => intro q h; cases h; rfl
          | cons r rs ih =>
            intro q h
            unfold resMany at h
            split at h
            · rename_i c1 p' c2 q' hp' hq'
              split at h
              · cases h; simp [ih hq']
              · cases h
            · cases h
        have hne : ¬ (p.map (TV.conc ρ)).toArray.size = 1 := by
          simp only [List.size_toArray, List.length_map, hl hp]
          intro e
          match hr : fn.results.toList, e with
          | [r], _ => exact hrs r hr
        rw [dif_neg hne]
        rfl
      · obtain ⟨u, hu, hk⟩ := List.mem_flatMap.1 hk
        exact h2 u hu k hk
    · cases h
def doneQ (tab : List (Nat × TD)) (fn : Func) (n0 : Nat) (Out : AV → List (Nat × Blk) → Nat → Prop) : Post := fun e σ => match e with
  | .ret => ∃ c v0 m v Hout n1, resA tab σ.fr σ.H fn.results.toList = some (c, v0) ∧ c ∧ Out v Hout n1 ∧ v0 = v.ren (mp m) ∧ Weak n0 σ.fr σ.H m [] Hout n1 ∧ leB n1 v.keys = true ∧ BackedL Hout Hout
  | .normal => ∃ c v0 m v Hout n1, resA tab σ.fr σ.H fn.results.toList = some (c, v0) ∧ c ∧ Out v Hout n1 ∧ v0 = v.ren (mp m) ∧ Weak n0 σ.fr σ.H m [] Hout n1 ∧ leB n1 v.keys = true ∧ BackedL Hout Hout
  | _ => False
theorem mem_argFr {l : List AV} {t : Nat} {v : AV} (h : argFr l 0 t = some v) : l[t]? = some v := by
  obtain ⟨j, h1, h2⟩ := argFr_at h
  rw [show t = j by omega]; exact h2
theorem Does.intro (hT : Tab P tab) {f : FuncId} {fn : Func} {c : Code} {args : List AV} {Hin : List (Nat × Blk)} {n0 : Nat} {Out : AV → List (Nat × Blk) → Nat → Prop}
    (hf : P.funcs[f]? = some fn) (hb : fn.body = some c) (hname : (fn.name == "runtime.NumGoroutine") = false) (hN : fn.ntmps = N) (hlen : Nat.ble args.length N = true)
    (h : ∀ E, E.n0 = n0 → awp P E N c (doneQ tab fn n0 Out) ⟨argFr args 0, lk Hin, n0⟩) : Does P f args Hin n0 Out := by
  refine ⟨⟨fn, hf, hname, by simp [hb]⟩, fun ρ w hH hk => ?_⟩
  have hlen := Nat.le_of_ble_eq_true hlen
  refine calls_of_wp hf hb (Code.wp_mono (fun e a' w' hq => ?_) (h (envOf w ρ Hin n0) rfl ρ _ w ⟨⟨rfl, ?_, fun t v hv => ?_, fun t v hv => ?_⟩, hH⟩))
  · obtain ⟨ρ', σ', hI, hq⟩ := hq
    cases e with
    | ret =>
      obtain ⟨c', v0, m, v, Hout, n1, h1, h2, h3, h4, h5, h8, h9⟩ := hq
      obtain ⟨h6, h7⟩ := resA_sound hT hI h1 h2
      have hok := h5.ok
      simp only [okWeak, Bool.and_eq_true] at hok
      obtain ⟨⟨⟨⟨hm, hk⟩, hf'⟩, hks⟩, hle⟩ := hok
      have hw9 := hI.h.weak rfl h5.h hm hk hks (Nat.le_of_ble_eq_true hle)
      refine ⟨hI.f.defers, _, h6, fun k => ρ' (mp m k), v, Hout, n1, h3, ?_, hw9, leB_sound h8, h9.sealed hw9⟩
      rw [h4, AV.conc_ren]
    | normal =>
      obtain ⟨c', v0, m, v, Hout, n1, h1, h2, h3, h4, h5, h8, h9⟩ := hq
      obtain ⟨h6, h7⟩ := resA_sound hT hI h1 h2
      have hok := h5.ok
      simp only [okWeak, Bool.and_eq_true] at hok
      obtain ⟨⟨⟨⟨hm, hk⟩, hf'⟩, hks⟩, hle⟩ := hok
      have hw9 := hI.h.weak rfl h5.h hm hk hks (Nat.le_of_ble_eq_true hle)
      refine ⟨hI.f.defers, _, h6, fun k => ρ' (mp m k), v, Hout, n1, h3, ?_, hw9, leB_sound h8, h9.sealed hw9⟩
      rw [h4, AV.conc_ren]
    | exit id => exact hq.elim
    | goto l => exact hq.elim
    | panic ch => exact hq.elim
    | outgrown => exact hq.elim
  · simp [hN]; omega
  · have hv := mem_argFr hv
    have hlt := (List.getElem?_eq_some_iff.1 hv).1
    simp [Array.getElem?_append, hlt]
    rw [(List.getElem?_eq_some_iff.1 hv).2]
  · exact hk v (List.mem_of_getElem? (mem_argFr hv))
def evs (fr : Nat → Option AV) : List Operand → Option (List AV)
  | [] => some []
  | x :: r => match ev fr x, evs fr r with
    | some v, some l => some (v :: l)
    | _, _ => none
theorem evs_sound {ρ : Rho} {a : Act} {w : World} (hI : Inv E N ρ σ a w) : ∀ {xs : List Operand} {l : List AV}, evs σ.fr xs = some l → xs.map a.eval = l.map (AV.conc ρ) ∧ ∀ v ∈ l, ∀ k ∈ v.keys, k < σ.nx
  | [], l, h => by cases h; simp
  | x :: r, l, h => by
    unfold evs at h
    split at h
    · rename_i v l' hx hr
      cases h
      obtain ⟨h1, h2⟩ := ev_sound hI.f hI.h.nil hI.h.hb.pos hx
      obtain ⟨h3, h4⟩ := evs_sound hI hr
      refine ⟨by simp [h1, h3], fun u hu => ?_⟩
      rcases List.mem_cons.1 hu with rfl | hu
      · exact h2
      · exact h4 u hu
    · cases h
def capAV (p : Nat × Nat) : AV := .one (.ptr p.1 p.2 0 0)
def callArgs (fr : Nat → Option AV) (f : Operand) (xs : Array Operand) : Option (FuncId × List AV) := match ev fr f, evs fr xs.toList with
  | some (.one (.fn g caps)), some l => some (g, l ++ caps.map capAV)
  | _, _ => none
def Blk.nilOK : Blk → Bool
  | .dead => true
  | .ro e => Nat.beq e.len 0
  | .own _ cap e => Nat.beq e.len 0 && Nat.beq cap 0
  | .al _ _ => false
  | .tok _ _ _ => false
def Blk.isTok : Blk → Bool
  | .tok .. => true
  | _ => false
def hasTok (Hin : List (Nat × Blk)) : Bool := Hin.any fun p => p.2.isTok
def okTok (m : Nat → Nat) (Hin : List (Nat × Blk)) : Bool := !hasTok Hin || Hin.all fun p => match p.2 with
  | .own _ _ e => !e.flag
  | .tok .. => !Nat.beq (m p.1) 0
  | .dead => true
  | _ => false
def Elts.forget : Elts → Elts
  | .rows q _ l => .rows q false l
  | .vals _ l => .vals false l
  | .mats _ l => .mats false l
  | e => e
def Blk.forget : Blk → Blk
  | .ro e => .ro e.forget
  | .own t c e => .own t c e.forget
  | .al _ _ => .dead
  | b => b
def FitB (H : Nat → Option Blk) (m : Nat → Nat) : List (Nat × Blk) → Prop
  | [] => True
  | p :: r => ((match p.2 with
      | .dead => True
      | .ro e => eltsAt H (m p.1) = some (e.ren m)
      | .own t c e => H (m p.1) = some (.own t c (e.ren m))
      | .al a e => H (m p.1) = some (.al a (e.ren m))
      | .tok t q l => H (m p.1) = some (.tok t q l)) ∨ (m p.1 = 0 ∧ p.2.nilOK = true)) ∧ FitB H m r
def okFit (n0 : Nat) (m : Nat → Nat) : List (Nat × Blk) → Bool
  | [] => true
  | p :: r => Nat.blt p.1 n0 && r.all (fun q => Nat.beq p.1 q.1 || (!p.2.isOwn && !q.2.isOwn) || Nat.beq (m p.1) 0 || !Nat.beq (m p.1) (m q.1)) && okFit n0 m r
def ownIn (Hin : List (Nat × Blk)) (k : Nat) : Bool := match lk Hin k with
  | some b => b.isOwn
  | none => false
def mq (m : List (Nat × Nat)) (n0 nx k : Nat) : Nat := bif Nat.blt k n0 then mp m k else nx + (k - n0)
def okCall (n0 nx : Nat) (m : List (Nat × Nat)) (Hin : List (Nat × Blk)) : Bool :=
  okFit n0 (mp m) Hin && (List.range n0).all (fun k => Nat.blt (mp m k) nx) && Nat.beq (mp m 0) 0 && Nat.blt 0 n0 && leB n0 (Hin.flatMap fun p => p.2.ks) && okTok (mp m) Hin
def outL (Hin : List (Nat × Blk)) (n0 : Nat) (mm : Nat → Nat) : List (Nat × Blk) → List (Nat × Blk)
  | [] => []
  | p :: r => bif Nat.ble n0 p.1 || (ownIn Hin p.1 && !Nat.beq (mm p.1) 0) then (mm p.1, p.2.ren mm) :: outL Hin n0 mm r else outL Hin n0 mm r
def afterH (H : Nat → Option Blk) (m : List (Nat × Nat)) (n0 nx : Nat) (Hin Hout : List (Nat × Blk)) : Nat → Option Blk := fun k =>
  match lk (outL Hin n0 (mq m n0 nx) Hout) k with
  | some b => some b
  | none => bif Hin.any (fun p => p.2.isOwn && Nat.beq (mp m p.1) k) then none else bif hasTok Hin then (H k).map Blk.forget else H k
theorem outL_at {Hin : List (Nat × Blk)} {n0 : Nat} {mm : Nat → Nat} : ∀ {Hout : List (Nat × Blk)} {k : Nat} {b : Blk}, lk (outL Hin n0 mm Hout) k = some b →
    ∃ j b0, lk Hout j = some b0 ∧ mm j = k ∧ b = b0.ren mm ∧ (n0 ≤ j ∨ (ownIn Hin j = true ∧ mm j ≠ 0))
  | [], _, _, h => by cases h
  | p :: r, k, b, h => by
    unfold outL at h
    have step : ∀ {q : Nat} {b0 : Blk}, lk r q = some b0 → (Nat.beq q p.1 = true → ∃ j b0, lk (p :: r) j = some b0 ∧ mm j = k ∧ b = b0.ren mm ∧ (n0 ≤ j ∨ (ownIn Hin j = true ∧ mm j ≠ 0))) → mm q = k → b = b0.ren mm → (n0 ≤ q ∨ (ownIn Hin q = true ∧ mm q ≠ 0)) →
        ∃ j b0, lk (p :: r) j = some b0 ∧ mm j = k ∧ b = b0.ren mm ∧ (n0 ≤ j ∨ (ownIn Hin j = true ∧ mm j ≠ 0)) := fun {q b0} h1 h2 h3 h4 h5 => by
      cases e : Nat.beq q p.1 with
      | true => exact h2 e
      | false => exact ⟨q, b0, by unfold lk; rw [e]; exact h1, h3, h4, h5⟩
    cases c : (Nat.ble n0 p.1 || (ownIn Hin p.1 && !Nat.beq (mm p.1) 0)) with
    | true =>
      rw [c] at h
      have hc : n0 ≤ p.1 ∨ (ownIn Hin p.1 = true ∧ mm p.1 ≠ 0) := by
        simp only [Bool.or_eq_true, Bool.and_eq_true, Bool.not_eq_true'] at c
        rcases c with c | c
        · exact .inl (Nat.le_of_ble_eq_true c)
        · exact .inr ⟨c.1, nbeq_of c.2⟩
      simp only [cond_true] at h
      unfold lk at h
      cases e : Nat.beq k (mm p.1) with
      | true =>
        rw [e] at h
        have e := Nat.eq_of_beq_eq_true e
        cases h
        exact ⟨p.1, p.2, by unfold lk; simp, e.symm, rfl, hc⟩
      | false =>
        rw [e] at h
        obtain ⟨j, b0, h1, h2, h3, h4⟩ := outL_at h
        refine step h1 (fun e' => ?_) h2 h3 h4
        have e' := Nat.eq_of_beq_eq_true e'
        rw [e'] at h2
        exact absurd h2.symm (nbeq_of e)
    | false =>
      rw [c] at h
      simp only [cond_false] at h
      obtain ⟨j, b0, h1, h2, h3, h4⟩ := outL_at h
      refine step h1 (fun e' => ?_) h2 h3 h4
      have e' := Nat.eq_of_beq_eq_true e'
      rw [e'] at h4
      simp only [Bool.or_eq_false_iff] at c
      rcases h4 with h4 | h4
      · rw [show Nat.ble n0 p.1 = true by rw [Nat.ble_eq]; exact h4] at c; cases c.1
      · rw [h4.1, nbeq_ne h4.2] at c; cases c.2
theorem FitB.at_ {H : Nat → Option Blk} {m : Nat → Nat} : ∀ {l : List (Nat × Blk)} {k : Nat} {b : Blk}, FitB H m l → lk l k = some b → ((match b with
      | .dead => True
      | .ro e => eltsAt H (m k) = some (e.ren m)
      | .own t c e => H (m k) = some (.own t c (e.ren m))
      | .al a e => H (m k) = some (.al a (e.ren m))
      | .tok t q l => H (m k) = some (.tok t q l)) ∨ (m k = 0 ∧ b.nilOK = true))
  | [], _, _, _, h => by cases h
  | p :: r, k, b, h, hl => by
    unfold lk at hl
    cases e : Nat.beq k p.1 with
    | true =>
      rw [e] at hl
      have e := Nat.eq_of_beq_eq_true e
      cases hl; subst e
      exact h.1
    | false => rw [e] at hl; exact FitB.at_ h.2 hl
theorem okFit_sound {n0 : Nat} {m : Nat → Nat} : ∀ {l : List (Nat × Blk)}, okFit n0 m l = true →
    (∀ p ∈ l, p.1 < n0) ∧ ∀ p ∈ l, ∀ q ∈ l, p.1 ≠ q.1 → (p.2.isOwn = true ∨ q.2.isOwn = true) → m p.1 ≠ 0 → m p.1 ≠ m q.1
  | [], _ => ⟨fun _ h => by (cases h), fun _ h => by (cases h)⟩
  | p :: r, h => by
    simp only [okFit, Bool.and_eq_true] at h
    obtain ⟨⟨h1, h2⟩, h3⟩ := h
    obtain ⟨i1, i2⟩ := okFit_sound h3
    have h2' : ∀ q ∈ r, p.1 ≠ q.1 → (p.2.isOwn = true ∨ q.2.isOwn = true) → m p.1 ≠ 0 → m p.1 ≠ m q.1 := fun q hq hne ho hm e => by
      have := List.all_eq_true.1 h2 q hq
      simp only [Bool.or_eq_true, Bool.not_eq_true', Bool.and_eq_true] at this
      rcases this with ((c | c) | c) | c
      · exact hne (Nat.eq_of_beq_eq_true c)
      · rcases ho with ho | ho
        · rw [ho] at c; cases c.1
        · rw [ho] at c; cases c.2
      · exact hm (Nat.eq_of_beq_eq_true c)
      · exact nbeq_of c e
    refine ⟨fun q hq => ?_, fun q hq q' hq' hne ho hm => ?_⟩
    · rcases List.mem_cons.1 hq with rfl | hq
      · exact nblt h1
      · exact i1 q hq
    · rcases List.mem_cons.1 hq with rfl | hq1
      · rcases List.mem_cons.1 hq' with rfl | hq2
        · exact absurd rfl hne
        · exact h2' q' hq2 hne ho hm
      · rcases List.mem_cons.1 hq' with rfl | hq2
        · exact fun e => h2' q hq1 (Ne.symm hne) ho.symm (by rw [← e]; exact hm) e.symm
        · exact i2 q hq1 q' hq2 hne ho hm
theorem BlkOK.ren_iff {ρ : Rho} {m : Nat → Nat} {k : Nat} {w : World} {b : Blk} : BlkOK (fun k => ρ (m k)) k w b → BlkOK ρ (m k) w (b.ren m) := fun h => by
  cases b with
  | dead => trivial
  | ro e =>
    simp only [Blk.ren, BlkOK, Elts.len_ren, Elts.all_ren] at h ⊢
    cases hp : ρ (m k) with
    | none => rw [hp] at h; exact h
    | some p =>
      rw [hp] at h
      refine ⟨h.1, fun j u hu => ?_⟩
      rw [List.getElem?_map, Option.map_eq_some_iff] at hu
      obtain ⟨u', hu', rfl⟩ := hu
      rw [h.2 j u' hu', SV.conc_ren]
  | own t c e =>
    simp only [Blk.ren, BlkOK, Elts.len_ren, Elts.all_ren, Elts.sz_ren, cells_ren] at h ⊢
    exact h
  | al a e =>
    simp only [Blk.ren, BlkOK, Elts.len_ren, Elts.all_ren] at h ⊢
    refine ⟨h.1, ?_⟩
    replace h := h.2
    cases hp : ρ (m k) with
    | none => rw [hp] at h; exact h
    | some p =>
      rw [hp] at h
      refine ⟨h.1, fun j u hu => ?_⟩
      rw [List.getElem?_map, Option.map_eq_some_iff] at hu
      obtain ⟨u', hu', rfl⟩ := hu
      rw [h.2 j u' hu', SV.conc_ren]
  | tok t q l => exact h
theorem RowAt.heap {w w' : World} {q : Bool} {r : Row} (h : RowAt w q r) (hs : w.heap.size ≤ w'.heap.size) (hp : ∀ p, r.a = some p → 0 < r.len q → w'.heap[p.1]? = w.heap[p.1]?) : RowAt w' q r := by
  unfold RowAt at h ⊢
  cases hq : r.a with
  | none => rw [hq] at h; exact h
  | some p =>
    rw [hq] at h
    refine ⟨fun h0 => Nat.lt_of_lt_of_le (h.1 h0) hs, fun j u hu => (World.cell?_of_block (w := w) (a := ⟨p.1, p.2 + j, none⟩) (hp p hq ?_)).trans (h.2 j u hu)⟩
    have h1 := (List.getElem?_eq_some_iff.1 hu).1
    rw [Row.svs_len] at h1
    rcases Nat.eq_zero_or_pos (r.len q) with h0 | h0
    · rw [h0] at h1; omega
    · exact h0
theorem RowOwn.heap {w w' : World} {t : TypeId} {q : Bool} {r : Row} (h : RowOwn w t q r) (hp : ∀ p, r.a = some p → w'.heap[p.1]? = w.heap[p.1]?) : RowOwn w' t q r := by
  obtain ⟨h1, h2 | ⟨g, c, cur, hv, h3, hg, h4⟩⟩ := h
  · exact ⟨h1, .inl h2⟩
  · refine ⟨h1, .inr ⟨g, c, cur, hv, h3, ?_, h4⟩⟩
    cases hq : r.a with
    | none => simp [Row.val, hq] at hv
    | some p =>
      have : p.1 = g := by simp [Row.val, hq] at hv; exact hv.1.1
      rw [← this, hp p hq, this]; exact hg
theorem BlkOK.heap {ρ : Rho} {k : Nat} {w w' : World} {b : Blk} (h : BlkOK ρ k w b) (hs : w.heap.size ≤ w'.heap.size) (hp : b.live = true → ∀ p, ρ k = some p → w'.heap[p.1]? = w.heap[p.1]?) (hf : ∀ g, b.Far g → w'.heap[g]? = w.heap[g]?) : BlkOK ρ k w' b := by
  cases b with
  | dead => trivial
  | ro e =>
    simp only [BlkOK] at h ⊢
    cases hq : ρ k with
    | none => rw [hq] at h; exact h
    | some p =>
      rw [hq] at h
      refine ⟨fun h0 => Nat.lt_of_lt_of_le (h.1 h0) hs, fun j u hu => (World.cell?_of_block (w := w) (a := ⟨p.1, p.2 + j, none⟩) (hp ?_ p hq)).trans (h.2 j u hu)⟩
      exact Classical.byContradiction fun hn => by rw [Elts.none_at hn j] at hu; cases hu
  | own t cap e =>
    simp only [BlkOK] at h ⊢
    obtain ⟨h1, h2 | ⟨g, c, cur, hv, h3, hg, h4⟩⟩ := h
    · exact ⟨h1, .inl h2⟩
    · refine ⟨h1, .inr ⟨g, c, cur, hv, h3, ?_, h4⟩⟩
      cases hq : ρ k with
      | none => simp [adr, hq] at hv
      | some p =>
        have : p.1 = g := by simp [adr, hq] at hv; exact hv.1.1
        rw [← this, hp rfl p hq, this]; exact hg
  | al a e =>
    simp only [BlkOK] at h ⊢
    refine ⟨h.1, ?_⟩
    replace h := h.2
    cases hq : ρ k with
    | none => rw [hq] at h; exact h
    | some p =>
      rw [hq] at h
      refine ⟨fun h0 => Nat.lt_of_lt_of_le (h.1 h0) hs, fun j u hu => (World.cell?_of_block (w := w) (a := ⟨p.1, p.2 + j, none⟩) (hp ?_ p hq)).trans (h.2 j u hu)⟩
      exact Classical.byContradiction fun hn => by rw [Elts.none_al hn j] at hu; cases hu
  | tok t q l =>
    simp only [BlkOK] at h ⊢
    exact ⟨h.1, fun r hr => (h.2.1 r hr).heap fun p hp' => hf p.1 ⟨r, hr, p, hp', rfl⟩, h.2.2⟩
theorem eltsAt_live {H : Nat → Option Blk} {k : Nat} {e : Elts} (h : eltsAt H k = some e) : ∃ b, H k = some b ∧ (0 < e.len → b.live = true) ∧ b.elts = some e := by
  unfold eltsAt at h
  split at h
  · rename_i b hb
    refine ⟨b, hb, fun h0 => ?_, h⟩
    cases b with
    | dead => cases h
    | ro e' => cases h; simp only [Blk.live, Bool.not_eq_true']; exact nbeq_ne (by omega)
    | own t c e' => rfl
    | al a e' => cases h; simp only [Blk.live, Bool.not_eq_true']; exact nbeq_ne (by omega)
    | tok t q l => cases h
  · cases h
theorem BlkOK.asRo {ρ : Rho} {k : Nat} {w : World} {b : Blk} {e : Elts} (h : BlkOK ρ k w b) (he : b.elts = some e) : BlkOK ρ k w (.ro e) := by
  cases b with
  | dead => cases he
  | ro e' => cases he; exact h
  | own t cap e' =>
    cases he
    simp only [BlkOK]
    cases hq : ρ k with
    | none =>
      simp only [BlkOK] at h
      rcases h.2 with ⟨_, h2⟩ | ⟨g, c, cur, hv, _⟩
      · exact h2
      · simp [adr, hq] at hv
    | some p =>
      refine ⟨fun _ => h.lt rfl hq, fun j u hu => ?_⟩
      simp only [BlkOK] at h
      have ho : p.2 = 0 := by
        rcases h.2 with ⟨hv, _⟩ | ⟨g, c, cur, hv, _⟩
        · simp [adr, hq] at hv
        · simp [adr, hq] at hv; omega
      have h1 := World.ownsRow.cells (g := p.1) h (by simp [adr, hq, Value.ownBlock]) j (u.conc ρ) (by simp [cells, hu])
      rw [Addr.add_none] at h1
      rw [ho]; exact h1
  | al a e' => cases he; exact h.2
  | tok t q l => cases he
theorem BlkOK.ofNil {ρ : Rho} {k : Nat} {w : World} {b : Blk} (h : b.nilOK = true) (hk : ρ k = none) : BlkOK ρ k w b := by
  cases b with
  | dead => trivial
  | ro e => simp only [BlkOK, hk]; exact Nat.eq_of_beq_eq_true h
  | own t cap e =>
    simp only [Blk.nilOK, Bool.and_eq_true] at h
    have h1 := Nat.eq_of_beq_eq_true h.1
    have h2 := Nat.eq_of_beq_eq_true h.2
    simp only [BlkOK, adr, hk, Option.map_none, h1, h2]
    have : e.all = [] := List.eq_nil_of_length_eq_zero (by rw [Elts.all_len, h1, Nat.zero_mul])
    rw [this]
    exact ⟨by simp [cells], .inl ⟨rfl, rfl⟩⟩
  | al a e => cases h
  | tok t q l => cases h
theorem Elts.rds_nil {e : Elts} (h : e.len = 0) : e.rds = [] := by
  cases e with
  | rows q f l => cases f <;> first | rfl | (simp only [Elts.len] at h; simp [Elts.rds, List.eq_nil_of_length_eq_zero h])
  | vals f l => cases f <;> first | rfl | (simp only [Elts.len] at h; simp [Elts.rds, List.eq_nil_of_length_eq_zero h])
  | mats f l => cases f <;> first | rfl | (simp only [Elts.len] at h; simp [Elts.rds, List.eq_nil_of_length_eq_zero h])
  | _ => rfl
theorem Blk.nil_rds {b : Blk} (h : b.nilOK = true) : b.rds = [] := by
  cases b with
  | dead => rfl
  | ro e => exact Elts.rds_nil (Nat.eq_of_beq_eq_true h)
  | own t c e => simp only [Blk.nilOK, Bool.and_eq_true] at h; exact Elts.rds_nil (Nat.eq_of_beq_eq_true h.1)
  | al a e => cases h
  | tok t q l => cases h
theorem Blk.nil_Far {b : Blk} (h : b.nilOK = true) {g : Nat} : ¬ b.Far g := fun hf => by
  have h0 := Blk.nil_rds h
  cases b with
  | tok t q l => cases h
  | _ => obtain ⟨x, hx, _⟩ := hf; rw [h0] at hx; cases hx
theorem Elts.forget_all (e : Elts) : e.forget.all = e.all := by cases e <;> rfl
theorem Elts.forget_len (e : Elts) : e.forget.len = e.len := by cases e <;> rfl
theorem Elts.forget_sz (e : Elts) : e.forget.sz = e.sz := by cases e <;> rfl
theorem Elts.forget_rds (e : Elts) : e.forget.rds = [] := by cases e <;> rfl
theorem Blk.forget_rds (b : Blk) : b.forget.rds = [] := by cases b <;> first | rfl | exact Elts.forget_rds _
theorem Blk.forget_own (b : Blk) : b.forget.isOwn = b.isOwn := by cases b <;> rfl
theorem Blk.forget_live (b : Blk) : b.forget.live = true → b.live = true := by
  cases b with
  | ro e => simp only [Blk.forget, Blk.live, Elts.forget_len]; exact id
  | al a e => intro h; cases h
  | _ => exact id
theorem Blk.forget_keys (b : Blk) : ∀ k ∈ b.forget.keys, k ∈ b.keys := by
  cases b with
  | ro e => simp only [Blk.forget, Blk.keys, Elts.keys, Elts.forget_all]; exact fun _ h => h
  | own t c e => simp only [Blk.forget, Blk.keys, Elts.keys, Elts.forget_all]; exact fun _ h => h
  | al a e => intro k hk; cases hk
  | _ => exact fun _ h => h
theorem Blk.forget_Far {b : Blk} {g : Nat} (h : b.forget.Far g) : ∃ t q l, b = .tok t q l := by
  cases b with
  | tok t q l => exact ⟨t, q, l, rfl⟩
  | dead => obtain ⟨x, hx, _⟩ := h; cases hx
  | ro e => obtain ⟨x, hx, _⟩ := h; rw [show (Blk.ro e).forget.rds = [] from Elts.forget_rds e] at hx; cases hx
  | own t c e => obtain ⟨x, hx, _⟩ := h; rw [show (Blk.own t c e).forget.rds = [] from Elts.forget_rds e] at hx; cases hx
  | al a e => obtain ⟨x, hx, _⟩ := h; cases hx
theorem BlkOK.forget {ρ : Rho} {k : Nat} {w : World} {b : Blk} (h : BlkOK ρ k w b) : BlkOK ρ k w b.forget := by
  cases b with
  | ro e => simp only [Blk.forget, BlkOK, Elts.forget_all, Elts.forget_len] at h ⊢; exact h
  | own t c e => simp only [Blk.forget, BlkOK, Elts.forget_all, Elts.forget_len, Elts.forget_sz] at h ⊢; exact h
  | al a e => trivial
  | _ => exact h
theorem forget_tok {b : Blk} {t : TypeId} {q : Bool} {l : List Row} (h : b.forget = .tok t q l) : b = .tok t q l := by
  cases b <;> first | (cases h; done) | exact h
theorem forget_ro {b : Blk} {e : Elts} (h : b.forget = .ro e) : ∃ e0, b = .ro e0 ∧ e0.len = e.len := by
  cases b with
  | ro e0 => cases h; exact ⟨e0, rfl, (Elts.forget_len e0).symm⟩
  | _ => cases h
theorem HInv.enter {ρ : Rho} {H : Nat → Option Blk} {nx : Nat} {w : World} (h : HInv E ρ H nx w) {n0 : Nat} {m : List (Nat × Nat)} {Hin : List (Nat × Blk)}
    (hf : FitB H (mp m) Hin) (hok : okCall n0 nx m Hin = true) : HInv (envOf w (fun k => ρ (mp m k)) Hin n0) (fun k => ρ (mp m k)) (lk Hin) n0 w := by
  simp only [okCall, Bool.and_eq_true] at hok
  obtain ⟨⟨⟨⟨⟨hd, _⟩, hz⟩, hpos⟩, hks⟩, htk⟩ := hok
  have hz := Nat.eq_of_beq_eq_true hz
  have hpos := nblt hpos
  obtain ⟨d1, d2⟩ := okFit_sound hd
  have hnil : (fun k => ρ (mp m k)) 0 = none := by show ρ (mp m 0) = none; rw [hz]; exact h.nil
  have hlive : ∀ {k : Nat} {b : Blk} {p : Nat × Nat}, lk Hin k = some b → b.live = true → ρ (mp m k) = some p → ∃ b', H (mp m k) = some b' ∧ b'.live = true ∧ (b.isOwn = true → b'.isOwn = true) ∧ mp m k ≠ 0 := fun {k b p} hk hl hp => by
    rcases hf.at_ hk with hb | ⟨h0, _⟩
    · have hne : mp m k ≠ 0 := fun e => by rw [e, h.nil] at hp; cases hp
      cases b with
      | dead => cases hl
      | ro e =>
        obtain ⟨b', hb', hl', _⟩ := eltsAt_live hb
        exact ⟨b', hb', hl' (by rw [Elts.len_ren]; exact Blk.live_ro hl), fun h => (by cases h), hne⟩
      | own t c e => exact ⟨_, hb, rfl, fun _ => rfl, hne⟩
      | al a e => exact ⟨_, hb, (by simp only [Blk.live, Elts.len_ren] at hl ⊢; exact hl), fun h => (by cases h), hne⟩
      | tok t q l =>
        have := h.blk _ _ hb
        simp only [BlkOK] at this
        rw [this.1] at hp; cases hp
    · rw [h0, h.nil] at hp; cases hp
  have hrd : ∀ {k : Nat} {b : Blk}, lk Hin k = some b → b.nilOK = true ∨ ∃ b', H (mp m k) = some b' ∧ b'.rds = b.rds ∧ ∀ g, b.Far g → b'.Far g := fun {k b} hk => by
    rcases hf.at_ hk with hb | ⟨_, h0⟩
    · cases b with
      | dead => exact .inl rfl
      | ro e =>
        obtain ⟨b', hb', _, he⟩ := eltsAt_live hb
        have hr : b'.rds = e.rds := by rw [← Elts.rds_ren (m := mp m) e]; cases b' <;> cases he <;> rfl
        refine .inr ⟨b', hb', hr, fun g ⟨x, hx, h0, p, hp, e⟩ => ?_⟩
        exact e ▸ Blk.Far_rds (by rw [hr]; exact hx) h0 hp
      | own t c e => exact .inr ⟨_, hb, Elts.rds_ren e, fun g hg => (Blk.Far_ren (b := .own t c e) (m := mp m)).2 hg⟩
      | al a e => exact .inr ⟨_, hb, Elts.rds_ren e, fun g hg => (Blk.Far_ren (b := .al a e) (m := mp m)).2 hg⟩
      | tok t q l => exact .inr ⟨_, hb, rfl, fun g hg => hg⟩
    · exact .inl h0
  have htok : ∀ {k : Nat} {t : TypeId} {q : Bool} {l : List Row}, lk Hin k = some (.tok t q l) → H (mp m k) = some (.tok t q l) ∧ mp m k ≠ 0 ∧ hasTok Hin = true := fun {k t q l} hk => by
    have h1 : hasTok Hin = true := List.any_eq_true.2 ⟨_, lk_mem hk, rfl⟩
    simp only [okTok, h1, Bool.not_true, Bool.false_or] at htk
    have h2 := List.all_eq_true.1 htk _ (lk_mem hk)
    simp only [Bool.not_eq_true'] at h2
    rcases hf.at_ hk with hb | ⟨_, h0⟩
    · exact ⟨hb, nbeq_of h2, h1⟩
    · cases h0
  refine ⟨hnil, fun k b hk => ?_, fun k b hk => ⟨d1 _ (lk_mem hk), fun k' hk' => ?_⟩, fun k k' b b' p p' hk hk' ho hl hne e e' => ?_, fun k b p hk _ _ hge _ => ?_, fun k b hk ho _ => ⟨b, hk, ho⟩, ⟨rfl, rfl, rfl, Nat.le_refl _, fun _ _ _ _ => rfl⟩, fun _ _ => rfl, Nat.le_refl _, hpos,
    fun k b hk x hx => ?_, fun k k' b b' p g hk hk' ho e hf' => ?_, fun k k' t t' q q' l l' hk hk' hne r hr r' hr' => ?_, fun k t q l hk r hr p hp => ?_, fun k k' t q l e p hk hk' hl e' r hr p' hp' => ?_⟩
  · rcases hf.at_ hk with hb | ⟨h0, hb⟩
    · refine BlkOK.ren ?_
      cases b with
      | dead => trivial
      | ro e =>
        obtain ⟨b', hb', _, he⟩ := eltsAt_live hb
        exact (h.blk _ _ hb').asRo he
      | own t c e => exact h.blk _ _ hb
      | al a e => exact h.blk _ _ hb
      | tok t q l => exact h.blk _ _ hb
    · exact BlkOK.ofNil hb (by show ρ (mp m k) = none; rw [h0]; exact h.nil)
  · rw [Blk.ks_eq] at hk'
    exact leB_sound hks k' (List.mem_flatMap.2 ⟨_, lk_mem hk, hk'⟩)
  · have hlb : b.live = true := by cases b <;> first | rfl | cases ho
    obtain ⟨c1, f1, f2, f3, f4⟩ := hlive hk hlb e
    obtain ⟨c2, g1, g2, _, _⟩ := hlive hk' hl e'
    exact h.inj _ _ c1 c2 p p' f1 g1 (f3 ho) g2 (d2 _ (lk_mem hk) _ (lk_mem hk') hne (.inl ho) f4) e e'
  · have := d1 _ (lk_mem hk)
    simp only [envOf] at hge
    simp only at this
    omega
  · rcases hrd hk with h0 | ⟨b', hb', hr, _⟩
    · rw [Blk.nil_rds h0] at hx; cases hx
    · exact h.rows _ b' hb' x (by rw [hr]; exact hx)
  · have hlb : b.live = true := by cases b <;> first | rfl | cases ho
    obtain ⟨c1, f1, f2, f3, f4⟩ := hlive hk hlb e
    rcases hrd hk' with h0 | ⟨c2, hb', _, hF⟩
    · exact (Blk.nil_Far h0 hf').elim
    · exact h.far _ _ c1 c2 p g f1 hb' (f3 ho) e (hF g hf')
  · obtain ⟨f1, f2, _⟩ := htok hk
    obtain ⟨g1, _, _⟩ := htok hk'
    exact h.tt _ _ t t' q q' l l' f1 g1 (d2 _ (lk_mem hk) _ (lk_mem hk') hne (.inl rfl) f2) r hr r' hr'
  · exact .inr (.inr ⟨k, t, q, l, hk, r, hr, p, hp, rfl⟩)
  · obtain ⟨_, _, h1⟩ := htok hk
    simp only [okTok, h1, Bool.not_true, Bool.false_or] at htk
    have h2 := List.all_eq_true.1 htk _ (lk_mem hk')
    cases h2
theorem HInv.leave {ρ : Rho} {H : Nat → Option Blk} {nx : Nat} {w : World} (h : HInv E ρ H nx w) {n0 : Nat} {m : List (Nat × Nat)} {Hin : List (Nat × Blk)}
    (hf : FitB H (mp m) Hin) (hok : okCall n0 nx m Hin = true) {ρ' : Rho} {Hout : List (Nat × Blk)} {n1 : Nat} {w' : World} (h' : HInv (envOf w (fun k => ρ (mp m k)) Hin n0) ρ' (lk Hout) n1 w') (hS : Sealed (envOf w (fun k => ρ (mp m k)) Hin n0) (lk Hout)) :
    ∃ ρ2 : Rho, (∀ k, k < nx → ρ2 k = ρ k) ∧ (∀ j, ρ2 (mq m n0 nx j) = ρ' j) ∧ HInv E ρ2 (afterH H m n0 nx Hin Hout) (nx + (n1 - n0)) w' := by
  have hok' := hok
  simp only [okCall, Bool.and_eq_true] at hok
  obtain ⟨⟨⟨⟨⟨hd, hlt⟩, hz⟩, hpos⟩, hks⟩, htk⟩ := hok
  obtain ⟨d1, d2⟩ := okFit_sound hd
  have hn01 : n0 ≤ n1 := h'.n0
  have hmlt : ∀ k, k < n0 → mp m k < nx := fun k hk => nblt (List.all_eq_true.1 hlt k (List.mem_range.2 hk))
  let ρ2 : Rho := fun k => if k < nx then ρ k else ρ' (k - nx + n0)
  have r1 : ∀ k, k < nx → ρ2 k = ρ k := fun k hk => if_pos hk
  have r2 : ∀ j, ρ2 (mq m n0 nx j) = ρ' j := fun j => by
    unfold mq
    cases c : Nat.blt j n0 with
    | true =>
      have c := nblt c
      show ρ2 (mp m j) = _
      rw [r1 _ (hmlt j c)]
      exact (h'.ent j c).symm
    | false =>
      have c : n0 ≤ j := Nat.le_of_not_lt fun hl => by rw [show Nat.blt j n0 = true by rw [Nat.blt_eq]; exact hl] at c; cases c
      simp only [cond_false]
      show (if nx + (j - n0) < nx then ρ (nx + (j - n0)) else ρ' (nx + (j - n0) - nx + n0)) = _
      rw [if_neg (by omega)]
      congr 1
      omega
  have hmq : ∀ j, j < n0 → mq m n0 nx j = mp m j := fun j hj => by unfold mq; rw [show Nat.blt j n0 = true by rw [Nat.blt_eq]; exact hj]; rfl
  have hmq2 : ∀ j, n0 ≤ j → mq m n0 nx j = nx + (j - n0) := fun j hj => by
    unfold mq
    cases c : Nat.blt j n0 with
    | true => exact absurd (nblt c) (by omega)
    | false => rfl
  have htok : ∀ {k : Nat} {t : TypeId} {q : Bool} {l : List Row}, lk Hin k = some (.tok t q l) → H (mp m k) = some (.tok t q l) ∧ mp m k ≠ 0 ∧ hasTok Hin = true := fun {k t q l} hk => by
    have h1 : hasTok Hin = true := List.any_eq_true.2 ⟨_, lk_mem hk, rfl⟩
    simp only [okTok, h1, Bool.not_true, Bool.false_or] at htk
    have h2 := List.all_eq_true.1 htk _ (lk_mem hk)
    simp only [Bool.not_eq_true'] at h2
    rcases hf.at_ hk with hb | ⟨_, h0⟩
    · exact ⟨hb, nbeq_of h2, h1⟩
    · cases h0
  have hown : ∀ j, ownIn Hin j = true → j < n0 ∧ ((∃ b, H (mp m j) = some b ∧ b.isOwn = true) ∨ ρ (mp m j) = none) := fun j hj => by
    unfold ownIn at hj
    split at hj
    · rename_i b hb
      refine ⟨d1 _ (lk_mem hb), ?_⟩
      rcases hf.at_ hb with hb' | ⟨h0, _⟩
      · cases b with
        | dead => cases hj
        | ro e => cases hj
        | own t c e => exact .inl ⟨_, hb', rfl⟩
        | al a e => cases hj
        | tok t q l => exact .inl ⟨_, hb', rfl⟩
      · right; rw [h0]; exact h.nil
    · cases hj
  have hown' : ∀ j, ownOf Hin j → ownIn Hin j = true := fun j ⟨b, hb, ho⟩ => by unfold ownIn; rw [hb]; exact ho
  let Old : Nat → Blk → Blk → Prop := fun k b0 b => H k = some b0 ∧ (b = b0 ∧ hasTok Hin = false ∨ b = b0.forget ∧ hasTok Hin = true) ∧ ∀ j, ownIn Hin j = true → mp m j ≠ k
  have hcase : ∀ k b, afterH H m n0 nx Hin Hout k = some b → (∃ j b0, lk Hout j = some b0 ∧ mq m n0 nx j = k ∧ b = b0.ren (mq m n0 nx) ∧ (n0 ≤ j ∨ (ownIn Hin j = true ∧ mq m n0 nx j ≠ 0))) ∨
      ∃ b0, Old k b0 b := fun k b hb => by
    unfold afterH at hb
    split at hb
    · rename_i b' hb'
      cases hb
      exact .inl (outL_at hb')
    · right
      cases c : Hin.any (fun p => p.2.isOwn && Nat.beq (mp m p.1) k) with
      | true => rw [c] at hb; cases hb
      | false =>
        rw [c] at hb
        have hno : ∀ j, ownIn Hin j = true → mp m j ≠ k := fun j hj e => by
          unfold ownIn at hj
          split at hj
          · rename_i b' hb'
            have := List.any_eq_false.1 c _ (lk_mem hb')
            simp [hj, e] at this
          · cases hj
        cases ct : hasTok Hin with
        | false => rw [ct] at hb; exact ⟨b, hb, .inl ⟨rfl, ct⟩, hno⟩
        | true =>
          rw [ct] at hb
          simp only [cond_false, cond_true, Option.map_eq_some_iff] at hb
          obtain ⟨b0, hb0, rfl⟩ := hb
          exact ⟨b0, hb0, .inr ⟨rfl, ct⟩, hno⟩
  have oOwn : ∀ {k : Nat} {b0 b : Blk}, Old k b0 b → b.isOwn = b0.isOwn := fun {k b0 b} ⟨_, hb, _⟩ => by
    rcases hb with ⟨rfl, _⟩ | ⟨rfl, _⟩
    · rfl
    · exact Blk.forget_own b0
  have oLive : ∀ {k : Nat} {b0 b : Blk}, Old k b0 b → b.live = true → b0.live = true := fun {k b0 b} ⟨_, hb, _⟩ hl => by
    rcases hb with ⟨rfl, _⟩ | ⟨rfl, _⟩
    · exact hl
    · exact Blk.forget_live b0 hl
  have oFar : ∀ {k : Nat} {b0 b : Blk} {g : Nat}, Old k b0 b → b.Far g → b0.Far g ∧ (hasTok Hin = true → ∃ t q l, b0 = .tok t q l) := fun {k b0 b g} ⟨_, hb, _⟩ hg => by
    rcases hb with ⟨rfl, ht⟩ | ⟨rfl, _⟩
    · exact ⟨hg, fun e => by rw [ht] at e; cases e⟩
    · obtain ⟨t, q, l, rfl⟩ := Blk.forget_Far hg
      exact ⟨hg, fun _ => ⟨t, q, l, rfl⟩⟩
  have oTok : ∀ {k : Nat} {b0 : Blk} {t : TypeId} {q : Bool} {l : List Row}, Old k b0 (.tok t q l) → H k = some (.tok t q l) := fun {k b0 t q l} ⟨h0, hb, _⟩ => by
    rcases hb with ⟨rfl, _⟩ | ⟨e, _⟩
    · exact h0
    · rw [forget_tok e.symm] at h0; exact h0
  have oRo : ∀ {k : Nat} {b0 : Blk} {e : Elts}, Old k b0 (.ro e) → ∃ e0, H k = some (.ro e0) ∧ e0.len = e.len := fun {k b0 e} ⟨h0, hb, _⟩ => by
    rcases hb with ⟨rfl, _⟩ | ⟨e', _⟩
    · exact ⟨e, h0, rfl⟩
    · obtain ⟨e0, rfl, h2⟩ := forget_ro e'.symm
      exact ⟨e0, h0, h2⟩
  have hlivO : ∀ {k : Nat} {b : Blk}, H k = some b → b.isOwn = true → b.live = true := fun {k b} _ ho => by cases b <;> first | rfl | cases ho
  have hW : ∀ g, Wr (envOf w (fun k => ρ (mp m k)) Hin n0) g → ∀ k b0 b p', Old k b0 b → b.live = true → ρ k = some p' → g ≠ p'.1 := fun g hg k b0 b p' hO hl hp' => by
    have hl0 := oLive hO hl
    rcases hg with hg | ⟨j, q, hj, ho, hq, rfl⟩ | ⟨j, t, q, l, hj, r, hr, p, hp, rfl⟩
    · have := (h.blk k b0 hO.1).lt hl0 hp'
      simp only [envOf] at hg
      omega
    · have hq : ρ (mp m j) = some q := hq
      obtain ⟨_, ⟨bj, hbj, hoj⟩ | hbj⟩ := hown j (hown' j ho)
      · exact h.inj _ _ bj b0 q p' hbj hO.1 hoj hl0 (hO.2.2 j (hown' j ho)) hq hp'
      · rw [hbj] at hq; cases hq
    · obtain ⟨f1, f2, f3⟩ := htok hj
      have hbf : b = b0.forget := by
        rcases hO.2.1 with ⟨_, e⟩ | ⟨e, _⟩
        · rw [f3] at e; cases e
        · exact e
      cases b0 with
      | dead => cases hl0
      | ro e => exact fun e' => h.tr _ k t q l e p' f1 hO.1 (Blk.live_ro hl0) hp' r hr p hp e'.symm
      | own t' c e => exact fun e' => h.far k _ _ _ p' p.1 hO.1 f1 rfl hp' ⟨r, hr, p, hp, rfl⟩ e'.symm
      | al a e => rw [hbf] at hl; cases hl
      | tok t' q' l' =>
        have := h.blk k _ hO.1
        simp only [BlkOK] at this
        rw [this.1] at hp'; cases hp'
  have hWF : ∀ g, Wr (envOf w (fun k => ρ (mp m k)) Hin n0) g → ∀ k b0 b g', Old k b0 b → b.Far g' → g ≠ g' := fun g hg k b0 b g' hO hF => by
    obtain ⟨hF0, hft⟩ := oFar hO hF
    rcases hg with hg | ⟨j, q, hj, ho, hq, rfl⟩ | ⟨j, t, q, l, hj, r, hr, p, hp, rfl⟩
    · have := h.far_lt hO.1 hF0
      simp only [envOf] at hg
      omega
    · have hq : ρ (mp m j) = some q := hq
      obtain ⟨_, ⟨bj, hbj, hoj⟩ | hbj⟩ := hown j (hown' j ho)
      · exact h.far _ _ bj b0 q g' hbj hO.1 hoj hq hF0
      · rw [hbj] at hq; cases hq
    · obtain ⟨f1, f2, f3⟩ := htok hj
      obtain ⟨t', q', l', rfl⟩ := hft f3
      obtain ⟨r', hr', p', hp', rfl⟩ := hF0
      have hne : mp m j ≠ k := hO.2.2 j (by unfold ownIn; rw [hj]; rfl)
      exact h.tt _ k t t' q q' l l' f1 hO.1 hne r hr r' hr' p p' hp hp'
  have hWW : ∀ g, Wr (envOf w (fun k => ρ (mp m k)) Hin n0) g → Wr E g := fun g hg => by
    rcases hg with hg | ⟨j, q, hj, ho, hq, rfl⟩ | ⟨j, t, q, l, hj, r, hr, p, hp, rfl⟩
    · exact .inl (Nat.le_trans h.keeps.size hg)
    · have hq : ρ (mp m j) = some q := hq
      obtain ⟨_, ⟨bj, hbj, hoj⟩ | hbj⟩ := hown j (hown' j ho)
      · exact h.wr hbj hoj hq
      · rw [hbj] at hq; cases hq
    · obtain ⟨f1, _, _⟩ := htok hj
      exact h.tw _ t q l f1 r hr p hp
  have hstay : ∀ g, g < w.heap.size → ¬ Wr (envOf w (fun k => ρ (mp m k)) Hin n0) g → w'.heap[g]? = w.heap[g]? := fun g hg hn =>
    h'.keeps.block g hg (fun k p h1 h2 h3 e => hn (.inr (.inl ⟨k, p, h1, h2, h3, e⟩))) fun ht => hn (.inr (.inr ht))
  have hplace : ∀ j b0 p, lk Hout j = some b0 → b0.live = true → (n0 ≤ j ∨ ownIn Hin j = true) → ρ' j = some p → Wr (envOf w (fun k => ρ (mp m k)) Hin n0) p.1 := fun j b0 p hj hl ho hp => by
    rcases ho with ho | ho
    · exact h'.new j b0 p hj hl (hS j b0 hj).1 ho hp
    · have := h'.ent j (hown j ho).1
      rw [this] at hp
      refine .inr (.inl ⟨j, p, (hown j ho).1, ?_, hp, rfl⟩)
      unfold ownIn at ho
      split at ho
      · exact ⟨_, ‹_›, ho⟩
      · cases ho
  have hfun : (fun j => ρ2 (mq m n0 nx j)) = ρ' := funext r2
  have hkeyq : ∀ j, j < n1 → mq m n0 nx j < nx + (n1 - n0) := fun j hj => by
    rcases Nat.lt_or_ge j n0 with c | c
    · rw [hmq j c]; have := hmlt j c; omega
    · rw [hmq2 j c]; omega
  have h0nx : 0 < nx := Nat.lt_of_lt_of_le h.pos h.n0
  refine ⟨ρ2, r1, r2, ⟨by rw [r1 0 h0nx]; exact h.nil, fun k b hb => ?_, fun k b hb => ?_, fun k k' b b' p p' hb hb' ho hl hne e e' => ?_, fun k b p hb hl ha hn e => ?_, fun k b hb ho hn => ?_, ?_, fun k hk => ?_, Nat.le_trans h.n0 (Nat.le_add_right _ _), h.pos,
    fun k b hb x hx => ?_, fun k k' b b' p g hb hb' ho e hF => ?_, fun k k' t t' q q' l l' hb hb' hne r hr r' hr' => ?_, fun k t q l hb r hr p hp => ?_, fun k k' t q l e p hb hb' hl e' r hr p' hp' => ?_⟩⟩
  · rcases hcase k b hb with ⟨j, b0, h1, h2, rfl, h3⟩ | ⟨b0, hO⟩
    · have := h'.blk j b0 h1
      rw [← hfun] at this
      rw [← h2]
      exact BlkOK.ren_iff (m := mq m n0 nx) this
    · have hkk := h.key k b0 hO.1
      have h1 : BlkOK ρ2 k w b0 := (h.blk k b0 hO.1).congr (r1 k hkk.1) fun k' hk' => r1 k' (hkk.2 k' hk')
      have h2 : BlkOK ρ2 k w b := by
        rcases hO.2.1 with ⟨rfl, _⟩ | ⟨rfl, _⟩
        · exact h1
        · exact h1.forget
      refine h2.heap h'.keeps.size (fun hl p hp => ?_) fun g hg => ?_
      · rw [r1 k hkk.1] at hp
        exact hstay p.1 ((h.blk k b0 hO.1).lt (oLive hO hl) hp) fun hw => hW p.1 hw k b0 b p hO hl hp rfl
      · exact hstay g (h.far_lt hO.1 (oFar hO hg).1) fun hw => hWF g hw k b0 b g hO hg rfl
  · rcases hcase k b hb with ⟨j, b0, h1, h2, rfl, h3⟩ | ⟨b0, hO⟩
    · obtain ⟨f1, f2⟩ := h'.key j b0 h1
      refine ⟨by rw [← h2]; exact hkeyq j f1, fun k' hk' => ?_⟩
      rw [Blk.keys_ren] at hk'
      obtain ⟨j', hj', rfl⟩ := List.mem_map.1 hk'
      exact hkeyq j' (f2 j' hj')
    · obtain ⟨f1, f2⟩ := h.key k b0 hO.1
      refine ⟨Nat.lt_of_lt_of_le f1 (Nat.le_add_right _ _), fun k' hk' => Nat.lt_of_lt_of_le (f2 k' ?_) (Nat.le_add_right _ _)⟩
      rcases hO.2.1 with ⟨rfl, _⟩ | ⟨rfl, _⟩
      · exact hk'
      · exact Blk.forget_keys b0 k' hk'
  · have hlb : b.live = true := by cases b <;> first | rfl | cases ho
    rcases hcase k b hb with ⟨j, b0, h1, h2, rfl, h3⟩ | ⟨b0, hO⟩
    · rw [Blk.own_ren] at ho
      rw [Blk.live_ren] at hlb
      rw [← h2, r2] at e
      rcases hcase k' b' hb' with ⟨j', b0', g1, g2, rfl, g3⟩ | ⟨b0', hO'⟩
      · rw [Blk.live_ren] at hl
        rw [← g2, r2] at e'
        exact h'.inj j j' b0 b0' p p' h1 g1 ho hl (fun c => hne (by rw [← h2, ← g2, c])) e e'
      · rw [r1 k' (h.key k' b0' hO'.1).1] at e'
        exact hW p.1 (hplace j b0 p h1 hlb (h3.imp_right And.left) e) k' b0' b' p' hO' hl e'
    · rw [r1 k (h.key k b0 hO.1).1] at e
      rcases hcase k' b' hb' with ⟨j', b0', g1, g2, rfl, g3⟩ | ⟨b0', hO'⟩
      · rw [Blk.live_ren] at hl
        rw [← g2, r2] at e'
        exact fun c => hW p'.1 (hplace j' b0' p' g1 hl (g3.imp_right And.left) e') k b0 b p hO hlb e c.symm
      · rw [r1 k' (h.key k' b0' hO'.1).1] at e'
        exact h.inj k k' b0 b0' p p' hO.1 hO'.1 (by rw [← oOwn hO]; exact ho) (oLive hO' hl) hne e e'
  · rcases hcase k b hb with ⟨j, b0, h1, h2, rfl, h3⟩ | ⟨b0, hO⟩
    · rw [Blk.live_ren] at hl
      rw [← h2, r2] at e
      exact hWW p.1 (hplace j b0 p h1 hl (h3.imp_right And.left) e)
    · rw [r1 k (h.key k b0 hO.1).1] at e
      refine h.new k b0 p hO.1 (oLive hO hl) ?_ hn e
      rcases hO.2.1 with ⟨rfl, _⟩ | ⟨rfl, _⟩
      · exact ha
      · cases b0 with
        | al a e => cases hl
        | _ => rfl
  · rcases hcase k b hb with ⟨j, b0, h1, h2, rfl, h3⟩ | ⟨b0, hO⟩
    · rw [Blk.own_ren] at ho
      rcases Nat.lt_or_ge j n0 with c | c
      · have hj : ownIn Hin j = true ∧ mq m n0 nx j ≠ 0 := by
          rcases h3 with h3 | h3
          · omega
          · exact h3
        have hz : mp m j ≠ 0 := by rw [← hmq j c]; exact hj.2
        rw [hmq j c] at h2
        unfold ownIn at hj
        split at hj
        · rename_i b' hb'
          rcases hf.at_ hb' with hb2 | ⟨h0, _⟩
          · cases b' with
            | dead => cases hj.1
            | ro e => cases hj.1
            | own t c' e' => exact h.old k _ (h2 ▸ hb2) rfl hn
            | al a e => cases hj.1
            | tok t q l => exact h.old k _ (h2 ▸ hb2) rfl hn
          · exact absurd h0 hz
        · cases hj.1
      · rw [hmq2 j c] at h2
        have := h.n0
        omega
    · exact h.old k b0 hO.1 (by rw [← oOwn hO]; exact ho) hn
  · refine ⟨h'.keeps.os.trans h.keeps.os, h'.keeps.tape.trans h.keeps.tape, h'.keeps.output.trans h.keeps.output, Nat.le_trans h.keeps.size h'.keeps.size, fun b hb hno htk' => ?_⟩
    rw [← h.keeps.block b hb hno htk']
    refine hstay b (Nat.lt_of_lt_of_le hb h.keeps.size) fun hw => ?_
    rcases hWW b hw with g | ⟨k, p, g1, g2, g3, g4⟩ | g
    · omega
    · exact hno k p g1 g2 g3 g4
    · exact htk' g
  · rw [r1 k (Nat.lt_of_lt_of_le hk h.n0)]; exact h.ent k hk
  · rcases hcase k b hb with ⟨j, b0, h1, h2, rfl, h3⟩ | ⟨b0, hO⟩
    · rw [Blk.rds_ren] at hx
      exact h'.rows j b0 h1 x hx
    · have hx0 : x ∈ b0.rds := by
        rcases hO.2.1 with ⟨rfl, _⟩ | ⟨rfl, _⟩
        · exact hx
        · rw [Blk.forget_rds] at hx; cases hx
      refine (h.rows k b0 hO.1 x hx0).heap h'.keeps.size fun p hp h0 => ?_
      exact hstay p.1 ((h.rows k b0 hO.1 x hx0).lt hp h0) fun hw => hWF p.1 hw k b0 b p.1 hO (Blk.Far_rds hx h0 hp) rfl
  · have hlb : b.live = true := by cases b <;> first | rfl | cases ho
    rcases hcase k b hb with ⟨j, b0, h1, h2, rfl, h3⟩ | ⟨b0, hO⟩
    · rw [Blk.own_ren] at ho
      rw [Blk.live_ren] at hlb
      rw [← h2, r2] at e
      rcases hcase k' b' hb' with ⟨j', b0', g1, g2, rfl, g3⟩ | ⟨b0', hO'⟩
      · exact h'.far j j' b0 b0' p g h1 g1 ho e (Blk.Far_ren.1 hF)
      · exact hWF p.1 (hplace j b0 p h1 hlb (h3.imp_right And.left) e) k' b0' b' g hO' hF
    · rw [r1 k (h.key k b0 hO.1).1] at e
      rcases hcase k' b' hb' with ⟨j', b0', g1, g2, rfl, g3⟩ | ⟨b0', hO'⟩
      · exact fun c => hW g ((hS j' b0' g1).2 g (Blk.Far_ren.1 hF)) k b0 b p hO hlb e c.symm
      · exact h.far k k' b0 b0' p g hO.1 hO'.1 (by rw [← oOwn hO]; exact ho) e (oFar hO' hF).1
  · rcases hcase k _ hb with ⟨j, b0, h1, h2, h4, h3⟩ | ⟨b0, hO⟩
    · have e1 : b0 = .tok t q l := by cases b0 <;> cases h4; rfl
      subst e1
      rcases hcase k' _ hb' with ⟨j', b0', g1, g2, g4, g3⟩ | ⟨b0', hO'⟩
      · have e2 : b0' = .tok t' q' l' := by cases b0' <;> cases g4; rfl
        subst e2
        exact h'.tt j j' t t' q q' l l' h1 g1 (fun c => hne (by rw [← h2, ← g2, c])) r hr r' hr'
      · exact fun p p' hp hp' => hWF p.1 (h'.tw j t q l h1 r hr p hp) k' b0' _ p'.1 hO' ⟨r', hr', p', hp', rfl⟩
    · rcases hcase k' _ hb' with ⟨j', b0', g1, g2, g4, g3⟩ | ⟨b0', hO'⟩
      · have e2 : b0' = .tok t' q' l' := by cases b0' <;> cases g4; rfl
        subst e2
        exact fun p p' hp hp' c => hWF p'.1 (h'.tw j' t' q' l' g1 r' hr' p' hp') k b0 _ p.1 hO ⟨r, hr, p, hp, rfl⟩ c.symm
      · exact h.tt k k' t t' q q' l l' (oTok hO) (oTok hO') hne r hr r' hr'
  · rcases hcase k _ hb with ⟨j, b0, h1, h2, h4, h3⟩ | ⟨b0, hO⟩
    · have e1 : b0 = .tok t q l := by cases b0 <;> cases h4; rfl
      subst e1
      exact hWW p.1 (h'.tw j t q l h1 r hr p hp)
    · exact h.tw k t q l (oTok hO) r hr p hp
  · rcases hcase k _ hb with ⟨j, b0, h1, h2, h4, h3⟩ | ⟨b0, hO⟩
    · have e1 : b0 = .tok t q l := by cases b0 <;> cases h4; rfl
      subst e1
      rcases hcase k' _ hb' with ⟨j', b0', g1, g2, g4, g3⟩ | ⟨b0', hO'⟩
      · cases b0' with
        | ro e0 =>
          cases g4
          rw [← g2, r2] at e'
          exact h'.tr j j' t q l e0 p h1 g1 (by rw [Elts.len_ren] at hl; exact hl) e' r hr p' hp'
        | _ => cases g4
      · obtain ⟨e0, f1, f2⟩ := oRo hO'
        rw [r1 k' (h.key k' _ f1).1] at e'
        exact fun c => hW p'.1 (h'.tw j t q l h1 r hr p' hp') k' b0' _ p hO' (by simp only [Blk.live, Bool.not_eq_true']; exact nbeq_ne (by omega)) e' c.symm
    · rcases hcase k' _ hb' with ⟨j', b0', g1, g2, g4, g3⟩ | ⟨b0', hO'⟩
      · rw [← g2, r2] at e'
        have hl0 : b0'.live = true := by
          rw [← Blk.live_ren (m := mq m n0 nx), ← g4]
          simp only [Blk.live, Bool.not_eq_true']; exact nbeq_ne (by omega)
        exact hWF p.1 (hplace j' b0' p g1 hl0 (g3.imp_right And.left) e') k b0 _ p'.1 hO ⟨r, hr, p', hp', rfl⟩
      · obtain ⟨e0, f1, f2⟩ := oRo hO'
        rw [r1 k' (h.key k' _ f1).1] at e'
        exact h.tr k k' t q l e0 p (oTok hO) f1 (by omega) e' r hr p' hp'
theorem call_run {o : Oper} {f : FuncId} {args : List AV} {Hin : List (Nat × Blk)} {n0 : Nat} {Out : AV → List (Nat × Blk) → Nat → Prop} (hD : Does P f args Hin n0 Out) {fo : Operand} {xs : Array Operand} {ts : Array TypeId}
    (ho : o.op = .call ⟨.value fo, xs, ts⟩) (m : List (Nat × Nat)) (ha : callArgs σ.fr fo xs = some (f, args.map (AV.ren (mp m)))) (hk : leB n0 (args.flatMap AV.keys) = true)
    (hf : FitB σ.H (mp m) Hin) (hok : okCall n0 σ.nx m Hin = true) {ρ : Rho} {a : Act} {w : World} (hI : Inv E N ρ σ a w) :
    ∃ A, (execOp a.eval o).run P w = .ok (.enter f A) w ∧ Calls P f A w fun e w' => ∃ ρ2 v Hout n1, Out v Hout n1 ∧ e = .returned ((v.ren (mq m n0 σ.nx)).conc ρ2) ∧ HInv E ρ2 (afterH σ.H m n0 σ.nx Hin Hout) (σ.nx + (n1 - n0)) w' ∧
      (∀ k, k < σ.nx → ρ2 k = ρ k) ∧ ∀ k ∈ (v.ren (mq m n0 σ.nx)).keys, k < σ.nx + (n1 - n0) := by
  obtain ⟨⟨fn, hfn, hnm, hbody⟩, hcalls⟩ := hD
  unfold callArgs at ha
  split at ha
  · rename_i g caps l hg hl
    simp only [Option.some.injEq, Prod.mk.injEq] at ha
    obtain ⟨rfl, hargs⟩ := ha
    obtain ⟨e1, _⟩ := ev_sound hI.f hI.h.nil hI.h.hb.pos hg
    obtain ⟨e2, _⟩ := evs_sound hI hl
    have e1' : a.eval fo = .func (.func g) #[] (caps.map fun p => Value.pointer (adr ρ p.1 0)).toArray := e1
    have hconc : (args.map (AV.conc fun k => ρ (mp m k))) = (l ++ caps.map capAV).map (AV.conc ρ) := by
      rw [hargs, List.map_map]
      exact List.map_congr_left fun v _ => AV.conc_ren.symm
    have hrun : (execOp a.eval o).run P w = .ok (.enter g (args.map (AV.conc fun k => ρ (mp m k))).toArray) w := by
      have hxs : xs.map a.eval = (l.map (AV.conc ρ)).toArray := by rw [← e2, ← Array.toList_map, Array.toArray_toList]
      simp only [execOp, ho, resolve, e1', hxs, Deferred.ofValue, Sem.run_bind, Sem.run_pure, Result.andThen_ok, invoke, callFunc]
      rw [hconc]
      have hnm' : fn.name ≠ "runtime.NumGoroutine" := by simpa using hnm
      have hbody' : fn.body ≠ none := fun e => by rw [e] at hbody; cases hbody
      simp [hfn, hnm', hbody', List.map_map]
      intro a b _
      simp [capAV, AV.conc, SV.conc]
    have hE := hI.h.enter hf hok
    have hc := hcalls (fun k => ρ (mp m k)) w hE (fun v hv k hk' => leB_sound hk k (List.mem_flatMap.2 ⟨v, hv, hk'⟩))
    refine ⟨_, hrun, hc.mono fun e w' ⟨ρ', v, Hout, n1, h1, h2, h3, h4, h5⟩ => ?_⟩
    obtain ⟨ρ2, r1, r2, r3⟩ := hI.h.leave hf hok h3 h5
    have hv : v.conc ρ' = (v.ren (mq m n0 σ.nx)).conc ρ2 := by
      rw [AV.conc_ren, show (fun j => ρ2 (mq m n0 σ.nx j)) = ρ' from funext r2]
    have hn01 : n0 ≤ n1 := h3.n0
    refine ⟨ρ2, v, Hout, n1, h1, by rw [h2, hv], r3, r1, fun k hk' => ?_⟩
    rw [AV.keys_ren] at hk'
    obtain ⟨j, hj, rfl⟩ := List.mem_map.1 hk'
    have hj := h4 j hj
    simp only [okCall, Bool.and_eq_true] at hok
    obtain ⟨⟨⟨⟨⟨_, hlt⟩, _⟩, _⟩, _⟩, _⟩ := hok
    unfold mq
    cases c : Nat.blt j n0 with
    | true =>
      have c := nblt c
      have := nblt (List.all_eq_true.1 hlt j (List.mem_range.2 c))
      show mp m j < _
      omega
    | false =>
      show σ.nx + (j - n0) < _
      have c : n0 ≤ j := Nat.le_of_not_lt fun hl => by rw [show Nat.blt j n0 = true by rw [Nat.blt_eq]; exact hl] at c; cases c
      omega
  · cases ha
theorem OpR.call {o : Oper} {f : FuncId} {args : List AV} {Hin : List (Nat × Blk)} {n0 : Nat} {Out : AV → List (Nat × Blk) → Nat → Prop} (hD : Does P f args Hin n0 Out) {fo : Operand} {xs : Array Operand} {ts : Array TypeId}
    (ho : o.op = .call ⟨.value fo, xs, ts⟩) (m : List (Nat × Nat)) (ha : callArgs σ.fr fo xs = some (f, args.map (AV.ren (mp m)))) (hk : leB n0 (args.flatMap AV.keys) = true)
    (hf : FitB σ.H (mp m) Hin) (hok : okCall n0 σ.nx m Hin = true) :
    OpR P o E N σ fun v' H' nx' => ∃ v Hout n1, Out v Hout n1 ∧ v' = v.ren (mq m n0 σ.nx) ∧ H' = afterH σ.H m n0 σ.nx Hin Hout ∧ nx' = σ.nx + (n1 - n0) := by
  intro ρ a w hI K Q hK
  obtain ⟨A, hrun, hc⟩ := call_run hD ho m ha hk hf hok hI
  unfold Oper.wp
  rw [hrun, Oper.upon_enter]
  refine hc.mono fun e w' ⟨ρ2, v, Hout, n1, h1, h2, r3, r1, hk'⟩ => ?_
  subst h2
  exact hK ρ2 w' _ _ _ ⟨v, Hout, n1, h1, rfl, rfl, rfl⟩ r3 r1 (Nat.le_add_right _ _) hk'
def SV.mt : SV → SV → List (Nat × Nat)
  | .sl k _ _ _ _, .sl k' _ _ _ _ => [(k, k')]
  | .ptr k _ _ _, .ptr k' _ _ _ => [(k, k')]
  | .fn _ caps, .fn _ caps' => caps.zipWith (fun p q => (p.1, q.1)) caps'
  | _, _ => []
def svsMt : List SV → List SV → List (Nat × Nat)
  | a :: r, b :: s => a.mt b ++ svsMt r s
  | _, _ => []
def AV.mt : AV → AV → List (Nat × Nat)
  | .one a, .one b => a.mt b
  | .agg l, .agg l' => svsMt l l'
  | _, _ => []
def matchM : List AV → List AV → List (Nat × Nat)
  | a :: r, b :: s => a.mt b ++ matchM r s
  | _, _ => []
theorem w_E {l0 rest : List Oper} {o : Oper} {f : FuncId} {args : List AV} {Hin : List (Nat × Blk)} {n0 d : Nat} {Out : AV → List (Nat × Blk) → Nat → Prop} (hD : Does P f args Hin n0 Out) {fo : Operand} {xs : Array Operand} {ts : Array TypeId}
    (ho : o.op = .call ⟨.value fo, xs, ts⟩) (hdst : o.dst = some d) {l : List AV} (hl : callArgs fr fo xs = some (f, l)) (ha : l = args.map (AV.ren (mp (matchM args l)))) (hw : wantA l0 fr o = some true) (hd : inFrame N o.dst = true) (hk : leB n0 (args.flatMap AV.keys) = true)
    (hf : FitB H (mp (matchM args l)) Hin) (hok : okCall n0 nx (matchM args l) Hin = true)
    (h : ∀ v Hout n1, Out v Hout n1 → awpL P E N l0 Q rest ⟨upd fr d (v.ren (mq (matchM args l) n0 nx)), afterH H (matchM args l) n0 nx Hin Hout, nx + (n1 - n0)⟩) : awpL P E N l0 Q (o :: rest) ⟨fr, H, nx⟩ :=
  w_H (σ := ⟨fr, H, nx⟩) hw hd (OpR.call hD ho (matchM args l) (ha ▸ hl) hk hf hok) fun _ _ _ ⟨v, Hout, n1, h1, e1, e2, e3⟩ => by subst e1 e2 e3; rw [hdst]; exact h v Hout n1 h1
end
theorem sd {c : Prop} (h : c := by first | exact trivial | exact Nat.zero_lt_one | omega | (unfold InR; omega) | (dsimp only [InR]; omega) | (show _ < List.length _; omega) | (show _ ≤ List.length _; omega) | ((repeat' refine ⟨?_, ?_⟩) <;> first | omega | exact Nat.zero_lt_one | (unfold InR; omega) | (dsimp only [InR]; omega) | (show _ < List.length _; omega) | (show _ = List.length _; omega) | (show _ ≤ List.length _; omega) | (simp [Elts.len]; done) | (simp [Elts.len]; omega)) | (simp [Elts.len]; done) | (simp [Elts.len]; omega)) : c := h
theorem ft {c : Prop} (h : c := by repeat' (first | exact trivial | refine ⟨.inl rfl, ?_⟩ | refine ⟨.inr ⟨rfl, rfl⟩, ?_⟩)) : c := h
theorem sb {c : Prop} (h : c := by repeat' (first | exact trivial | refine ⟨rfl, ?_⟩)) : c := h
theorem kr {c : Prop} (h : c := by kernel_rfl) : c := h
theorem nh {c : Prop} (h : c := by exact fun _ _ h => h) : c := h
theorem sl_eqA {k k' sz off a b cap : Nat} {m : Nat → Nat} (h : a = b) (hk : k' = m k := by rfl) : some (AV.one (.sl k' sz off a cap)) = some ((AV.one (.sl k sz off b cap)).ren m) := by subst h hk; rfl
theorem w_1 {c : Prop} (h : c := by repeat' (first | exact trivial | refine ⟨rfl, ?_⟩ | refine ⟨congrArg some (congrArg vI (by first | omega | (simp; done) | (simp; omega))), ?_⟩ | refine ⟨sl_eqA (by first | omega | (simp; done) | (simp; omega)), ?_⟩)) : c := h
theorem w_2 {c : Prop} (h : c := by repeat' (first | exact trivial | refine ⟨rfl, ?_⟩)) : c := h
theorem w_3 {c : Prop} (h : c := by repeat' (first | exact trivial | exact Nat.zero_lt_one | omega | refine ⟨?_, ?_⟩)) : c := h
theorem w_4 {c : Prop} (h : c := by first | omega | (dsimp only; omega)) : c := h
attribute [irreducible] awp awpL
end Go.Proofs.YtekpamojojfplaaGreat
