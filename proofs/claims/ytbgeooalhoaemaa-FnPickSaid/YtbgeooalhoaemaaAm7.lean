/-
  THE ABSTRACT MACHINE, seventh part: regions that draw their order and write: what leaves the world alone is taken first, the rest in every order. Own text; over any program.
-/
import Derived.Test.YtbgeooalhoaemaaAm6
set_option linter.unusedVariables false
set_option linter.unusedSimpArgs false
namespace Go.Proofs.Ytbgeooalhoaemaa
open Go.RowKit

/-- The worlds in which the blocks hs lie as they lay. -/
def HS (ρs : Rho) (nxs : Nat) (hs : List (Nat × Blk)) (w : World) : Prop := HB ρs (lk hs) nxs w
def SubB (H : Nat → Option Blk) : List (Nat × Blk) → Prop
  | [] => True
  | p :: r => H p.1 = some p.2 ∧ SubB H r
theorem SubB.at_ {H : Nat → Option Blk} : ∀ {l : List (Nat × Blk)} {k : Nat} {b : Blk}, SubB H l → lk l k = some b → H k = some b
  | [], _, _, _, h => by cases h
  | p :: r, k, b, h, hl => by
    unfold lk at hl
    cases e : Nat.beq k p.1 with
    | true => rw [e] at hl; have e := Nat.eq_of_beq_eq_true e; cases hl; subst e; exact h.1
    | false => rw [e] at hl; exact SubB.at_ h.2 hl
structure Here (E : Env) (N : Nat) (ρs : Rho) (nxs : Nat) (hs : List (Nat × Blk)) (σ : St) (ρ : Rho) (a : Act) (w : World) : Prop where
  inv : Inv E N ρ σ a w
  agree : ∀ k, k < nxs → ρ k = ρs k
  held : HS ρs nxs hs w
  le : nxs ≤ σ.nx
def awpH (P : Program) (E : Env) (N : Nat) (l0 : List Oper) (Q : Post) (ρs : Rho) (nxs : Nat) (hs : List (Nat × Blk)) (fuel : Nat) (listed : Array Bool) (σ : St) : Prop :=
  ∀ ρ a w, Here E N ρs nxs hs σ ρ a w → wpAnyH P .any l0.toArray (lift E N Q) (HS ρs nxs hs) fuel listed a w
def awpHop (P : Program) (E : Env) (N : Nat) (l0 : List Oper) (Q : Post) (ρs : Rho) (nxs : Nat) (hs : List (Nat × Blk)) (fuel : Nat) (listed : Array Bool) (i : Nat) (σ : St) : Prop :=
  ∀ ρ a w, Here E N ρs nxs hs σ ρ a w → wpOp P l0.toArray (lift E N Q) i (fun a' w' => HS ρs nxs hs w' ∧ wpAnyH P .any l0.toArray (lift E N Q) (HS ρs nxs hs) fuel (listed.setIfInBounds i true) a' w') a w
def allP (f : Nat → Prop) : List Nat → Prop
  | [] => True
  | i :: r => f i ∧ allP f r
theorem allP.mem {f : Nat → Prop} : ∀ {l : List Nat} {i : Nat}, allP f l → i ∈ l → f i
  | [], _, _, h => by cases h
  | j :: r, i, h, hi => by
    rcases List.mem_cons.1 hi with rfl | hi
    · exact h.1
    · exact allP.mem h.2 hi
def keysB (n : Nat) (l : List (Nat × Blk)) : Bool := l.all fun p => Nat.blt p.1 n && leB n p.2.ks
section
variable {P : Program} {tab : List (Nat × TD)} {E : Env} {N : Nat} {Q : Post} {fr : Nat → Option AV} {H : Nat → Option Blk} {nx : Nat}
variable {l0 : List Oper} {ρs : Rho} {nxs : Nat} {hs : List (Nat × Blk)} {fuel : Nat} {listed : Array Bool}

theorem HS.of {ρ : Rho} {w : World} (h : HInv E ρ H nx w) (ha : ∀ k, k < nxs → ρ k = ρs k) (h0 : 0 < nxs) (hs' : SubB H hs) (hk : keysB nxs hs = true) : HS ρs nxs hs w := by
  have hkey : ∀ k b, lk hs k = some b → k < nxs ∧ ∀ k' ∈ b.keys, k' < nxs := fun k b hb => by
    have := List.all_eq_true.1 hk _ (lk_mem hb)
    simp only [Bool.and_eq_true] at this
    exact ⟨nblt this.1, fun k' hk' => leB_sound this.2 k' (by rw [← Blk.ks_eq]; exact hk')⟩
  refine ⟨by rw [← ha 0 h0]; exact h.nil, h0, fun k b hb => ?_, hkey⟩
  exact (h.blk k b (hs'.at_ hb)).congr (ha k (hkey k b hb).1).symm fun k' hk' => (ha k' ((hkey k b hb).2 k' hk')).symm
theorem HS.hb {ρ : Rho} {w : World} (h : HS ρs nxs hs w) (ha : ∀ k, k < nxs → ρ k = ρs k) (hn : nxs ≤ nx) : HB ρ (lk hs) nx w :=
  ⟨by rw [ha 0 h.pos]; exact h.nil, Nat.lt_of_lt_of_le h.pos hn, fun k b hb => (h.blk k b hb).congr (ha k (h.key k b hb).1) fun k' hk' => ha k' ((h.key k b hb).2 k' hk'),
    fun k b hb => ⟨Nat.lt_of_lt_of_le (h.key k b hb).1 hn, fun k' hk' => Nat.lt_of_lt_of_le ((h.key k b hb).2 k' hk') hn⟩⟩
/-- The beginning of a region. -/
theorem awp_held {id : Nat} (hm : P.follows .mixedOrders = true) (hs : List (Nat × Blk)) (hsub : SubB H hs) (hk : keysB nx hs = true)
    (h : ∀ ρs, awpH P E N l0 Q ρs nx hs l0.length (Array.replicate l0.length false) ⟨fr, H, nx⟩) : awp P E N (.region id l0.toArray true) Q ⟨fr, H, nx⟩ := by
  unfold awp
  intro ρ a w hI
  have hd : HInv E ρ H nx { w with drawn := w.drawn + 1 } := hI.h.drew
  have := h ρ ρ a _ ⟨⟨hI.f, hd⟩, fun _ _ => rfl, HS.of hd (fun _ _ => rfl) hd.hb.pos hsub hk, Nat.le_refl _⟩
  exact wp_region_held (S := HS ρ nx hs) hm (by simpa using this)
theorem awpH_done (hr : Region.ready .any l0.toArray listed = []) (h : Q .normal ⟨fr, H, nx⟩) : awpH P E N l0 Q ρs nxs hs fuel listed ⟨fr, H, nx⟩ := fun ρ _ _ hh =>
  wpAnyH_done hr ⟨ρ, _, hh.inv, h⟩ fuel
theorem awpH_take (hT : Tab P tab) (i : Nat) {o : Oper} {c : Prop} {v : AV} {d : Nat} (hi : nth l0 i = some o) (hsel : Region.noSelect l0.toArray = true) (hf : Region.free .any l0.toArray listed i = true) (hr : (Region.ready .any l0.toArray listed).contains i = true)
    (hQ : ∀ ch σ, Q (.panic ch) σ → False) (hdst : o.dst = some d) (hw : wantA l0 fr o = some true) (hd : Nat.blt d N = true) (hs' : pstep tab fr (lk hs) o.op = some (c, v)) (hc : c)
    (h : awpH P E N l0 Q ρs nxs hs fuel (listed.setIfInBounds i true) ⟨upd fr d v, H, nx⟩) : awpH P E N l0 Q ρs nxs hs (fuel + 1) listed ⟨fr, H, nx⟩ := fun ρ a w hh => by
  have hi' : l0.toArray[i]? = some o := by rw [← hi, nth_eq]; simp
  have hrun : ∀ w', HS ρs nxs hs w' → PS P o a w' ρ nx v := fun w' hw' => pstep_sound hT hh.inv.f (hw'.hb hh.agree hh.le) hs' hc
  refine wpAnyH_take (v := v.conc ρ) hi' hsel hf hr (fun ch a' w' ⟨_, _, _, q⟩ => (hQ _ _ q).elim) (.inl ⟨wantA_sound hh.inv.f hw, fun w' hw' => (hrun w' hw').1⟩) hh.held ?_
  rw [hdst]
  exact h ρ _ w ⟨⟨hh.inv.f.put (nblt hd) (hrun w hh.held).2, hh.inv.h⟩, hh.agree, hh.held, hh.le⟩
/-- The address of an element: it hangs on where the block lies alone, so the block need not be held. -/
theorem awpH_idx (hT : Tab P tab) (i : Nat) {o : Oper} {c : Prop} {v : AV} {d : Nat} {t : TypeId} {x y : Operand} (hi : nth l0 i = some o) (hsel : Region.noSelect l0.toArray = true) (hf : Region.free .any l0.toArray listed i = true) (hr : (Region.ready .any l0.toArray listed).contains i = true)
    (hQ : ∀ ch σ, Q (.panic ch) σ → False) (hdst : o.dst = some d) (hw : wantA l0 fr o = some true) (hd : Nat.blt d N = true) (ho : o.op = .indexAddr t x y) (hs' : pIndexAddr tab fr H t x y = some (c, v)) (hc : c)
    (h : awpH P E N l0 Q ρs nxs hs fuel (listed.setIfInBounds i true) ⟨upd fr d v, H, nx⟩) : awpH P E N l0 Q ρs nxs hs (fuel + 1) listed ⟨fr, H, nx⟩ := fun ρ a w hh => by
  have hi' : l0.toArray[i]? = some o := by rw [← hi, nth_eq]; simp
  have hrun : ∀ w', PS P o a w' ρ nx v := fun w' => pIndexAddr_all hT.ok ho hh.inv.f hh.inv.h.hb hs' hc w'
  refine wpAnyH_take (v := v.conc ρ) hi' hsel hf hr (fun ch a' w' ⟨_, _, _, q⟩ => (hQ _ _ q).elim) (.inl ⟨wantA_sound hh.inv.f hw, fun w' _ => (hrun w').1⟩) hh.held ?_
  rw [hdst]
  exact h ρ _ w ⟨⟨hh.inv.f.put (nblt hd) (hrun w).2, hh.inv.h⟩, hh.agree, hh.held, hh.le⟩
theorem awpH_pass (i : Nat) {o : Oper} {d : Nat} (hi : nth l0 i = some o) (hsel : Region.noSelect l0.toArray = true) (hf : Region.free .any l0.toArray listed i = true) (hr : (Region.ready .any l0.toArray listed).contains i = true)
    (hQ : ∀ ch σ, Q (.panic ch) σ → False) (hdst : o.dst = some d) (hw : wantA l0 fr o = some false)
    (h : awpH P E N l0 Q ρs nxs hs fuel (listed.setIfInBounds i true) ⟨upd fr d (.tup []), H, nx⟩) : awpH P E N l0 Q ρs nxs hs (fuel + 1) listed ⟨fr, H, nx⟩ := fun ρ a w hh => by
  have hi' : l0.toArray[i]? = some o := by rw [← hi, nth_eq]; simp
  refine wpAnyH_take (v := undef) hi' hsel hf hr (fun ch a' w' ⟨_, _, _, q⟩ => (hQ _ _ q).elim) (.inr ⟨wantA_sound hh.inv.f hw, rfl⟩) hh.held ?_
  rw [hdst]
  exact h ρ _ w ⟨⟨hh.inv.f.skip d, hh.inv.h⟩, hh.agree, hh.held, hh.le⟩
theorem awpH_split {o : Oper} {s : Nat} {b : Bool} {g : Nat × Bool} (i : Nat) (_hi : nth l0 i = some o) (_hg : o.guard = some g) (_hs : slotOf l0 g.1 = some s) (hb : fr s = some (.one (.bool b)))
    (ht : b = true → awpH P E N l0 Q ρs nxs hs fuel listed ⟨upd fr s (.one (.bool true)), H, nx⟩)
    (hf : b = false → awpH P E N l0 Q ρs nxs hs fuel listed ⟨upd fr s (.one (.bool false)), H, nx⟩) : awpH P E N l0 Q ρs nxs hs fuel listed ⟨fr, H, nx⟩ := fun ρ a w hh => by
  cases b with
  | true => exact ht rfl ρ a w ⟨⟨hh.inv.f.pin hb rfl, hh.inv.h⟩, hh.agree, hh.held, hh.le⟩
  | false => exact hf rfl ρ a w ⟨⟨hh.inv.f.pin hb rfl, hh.inv.h⟩, hh.agree, hh.held, hh.le⟩
theorem awpH_all (rs : List Nat) (hr : Region.ready .any l0.toArray listed = rs) (hne : rs.isEmpty = false) (h : allP (fun i => awpHop P E N l0 Q ρs nxs hs fuel listed i ⟨fr, H, nx⟩) rs) :
    awpH P E N l0 Q ρs nxs hs (fuel + 1) listed ⟨fr, H, nx⟩ := fun ρ a w hh =>
  wpAnyH_all hr (fun e => by rw [e] at hne; cases hne) fun i hi => (h.mem hi) ρ a w hh
theorem awpHop_op (i : Nat) {o : Oper} {R : AV → (Nat → Option Blk) → Nat → Prop} (hi : nth l0 i = some o) (hw : wantA l0 fr o = some true) (hd : inFrame N o.dst = true) (hk : keysB nxs hs = true) (ho : OpR P o E N ⟨fr, H, nx⟩ R)
    (h : ∀ v H' nx', R v H' nx' → SubB H' hs ∧ awpH P E N l0 Q ρs nxs hs fuel (listed.setIfInBounds i true) (putA ⟨fr, H', nx'⟩ o.dst v)) : awpHop P E N l0 Q ρs nxs hs fuel listed i ⟨fr, H, nx⟩ := fun ρ a w hh => by
  have hi' : l0.toArray[i]? = some o := by rw [← hi, nth_eq]; simp
  unfold wpOp
  simp only [hi']
  rw [wantA_sound hh.inv.f hw, if_pos rfl]
  refine .inl (ho ρ a w hh.inv _ _ fun ρ' w' v H' nx' hR hH hρ hn hk' => ?_)
  obtain ⟨h1, h2⟩ := h v H' nx' hR
  have hagree : ∀ k, k < nxs → ρ' k = ρs k := fun k hk => (hρ k (Nat.lt_of_lt_of_le hk hh.le)).trans (hh.agree k hk)
  have hle : nxs ≤ nx' := Nat.le_trans hh.le hn
  have hS : HS ρs nxs hs w' := HS.of hH hagree hh.held.pos h1 hk
  refine ⟨hS, h2 ρ' _ w' ⟨Inv.put (σ' := ⟨fr, H', nx'⟩) (hh.inv.f.mono hρ hn) hH hd hk', hagree, hS, ?_⟩⟩
  cases o.dst <;> exact hle
theorem awpHop_step (hT : Tab P tab) (i : Nat) {o : Oper} {c : Prop} {fr' : Nat → Option AV} {H' : Nat → Option Blk} {nx' : Nat} (hi : nth l0 i = some o) (hw : wantA l0 fr o = some true) (hd : inFrame N o.dst = true) (hs' : stepA tab fr H nx o = some (c, fr', H', nx')) (hc : c) (hsub : SubB H' hs) (hk : keysB nxs hs = true)
    (h : awpH P E N l0 Q ρs nxs hs fuel (listed.setIfInBounds i true) ⟨fr', H', nx'⟩) : awpHop P E N l0 Q ρs nxs hs fuel listed i ⟨fr, H, nx⟩ := by
  unfold stepA at hs'
  have key : ∀ {R : AV → (Nat → Option Blk) → Nat → Prop} {v1 : AV} {H1 : Nat → Option Blk} {n1 : Nat}, OpR P o E N ⟨fr, H, nx⟩ (det v1 H1 n1) → putA ⟨fr, H1, n1⟩ o.dst v1 = ⟨fr', H', nx'⟩ → H1 = H' → awpHop P E N l0 Q ρs nxs hs fuel listed i ⟨fr, H, nx⟩ := fun {R v1 H1 n1} ho e e2 =>
    awpHop_op i hi hw hd hk ho fun v H2 n2 ⟨e3, e4, e5⟩ => by subst e3 e4 e5; exact ⟨by rw [e2]; exact hsub, by rw [e]; exact h⟩
  split at hs'
  · rename_i c' v hr
    split at hs'
    · rename_i d hdst
      cases hs'
      exact key (R := fun _ _ _ => True) (OpR.pure hT hr hc) (by rw [hdst]; rfl) rfl
    · rename_i hdst
      cases hs'
      exact key (R := fun _ _ _ => True) (OpR.pure hT hr hc) (by rw [hdst]; rfl) rfl
  · split at hs'
    · rename_i t x d ho hdst
      split at hs'
      · rename_i v H1 hr
        cases hs'
        exact key (R := fun _ _ _ => True) (sBox_sound ho hr) (by rw [hdst]; rfl) rfl
      · cases hs'
    · rename_i t d ho hdst
      split at hs'
      · rename_i v H1 hr
        cases hs'
        exact key (R := fun _ _ _ => True) (sAlloc_sound hT ho hr) (by rw [hdst]; rfl) rfl
      · cases hs'
    · rename_i t x y d ho hdst
      split at hs'
      · rename_i c' v H1 hr
        cases hs'
        exact key (R := fun _ _ _ => True) (sMake_sound hT ho hr hc) (by rw [hdst]; rfl) rfl
      · cases hs'
    · rename_i t n ps d ho hdst
      split at hs'
      · rename_i v H1 hr
        cases hs'
        exact key (R := fun _ _ _ => True) (sBuildSlice_sound hT ho hr) (by rw [hdst]; rfl) rfl
      · split at hs'
        · rename_i c' v H1 hr
          cases hs'
          exact key (R := fun _ _ _ => True) (sBuildRows_sound hT ho hr hc) (by rw [hdst]; rfl) rfl
        · cases hs'
    · rename_i t x d ho hdst
      split at hs'
      · rename_i c' v H1 hr
        cases hs'
        exact key (R := fun _ _ _ => True) (sLoadR_sound hT ho hr hc) (by rw [hdst]; rfl) rfl
      · cases hs'
    · rename_i t x y ho hdst
      split at hs'
      · rename_i c' H1 hr
        cases hs'
        exact key (R := fun _ _ _ => True) (sStore_sound hT ho hdst hr hc) (by rw [hdst]; rfl) rfl
      · cases hs'
    · cases hs'
theorem awpHop_append (hT : Tab P tab) (i : Nat) {o : Oper} {c : Prop} {et k sz n m d : Nat} {e' : Elts} {t : TypeId} {x y : Operand} (hi : nth l0 i = some o) (ho : o.op = .call ⟨.builtin .append, #[x, y], #[t, t]⟩) (hdst : o.dst = some d)
    (hw : wantA l0 fr o = some true) (hd : inFrame N o.dst = true) (hs' : sAppend tab fr H nx t x y = some (c, appOut H nx et k sz n e' m)) (hc : c) (hsub : SubB (upd (upd H k .dead) nx (.own et 0 e')) hs) (hk : keysB nxs hs = true) (hlt : Nat.ble nxs nx = true)
    (h : ∀ cap, n + m ≤ cap → awpH P E N l0 Q ρs nxs hs fuel (listed.setIfInBounds i true) ⟨upd fr d (.one (.sl nx sz 0 (n + m) cap)), upd (upd H k .dead) nx (.own et cap e'), nx + 1⟩) : awpHop P E N l0 Q ρs nxs hs fuel listed i ⟨fr, H, nx⟩ :=
  awpHop_op i hi hw hd hk (sAppend_sound hT ho hs' hc) fun _ _ _ ⟨cap, h1, e1, e2, e3⟩ => by
    subst e1 e2 e3
    refine ⟨?_, by rw [hdst]; exact h cap h1⟩
    have hlt := Nat.le_of_ble_eq_true hlt
    have : ∀ (l : List (Nat × Blk)), (∀ p ∈ l, p.1 < nxs) → SubB (upd (upd H k .dead) nx (.own et 0 e')) l → SubB (upd (upd H k .dead) nx (.own et cap e')) l := fun l => by
      induction l with
      | nil => intro _ _; trivial
      | cons p r ih =>
        intro hl hb
        refine ⟨?_, ih (fun q hq => hl q (by simp [hq])) hb.2⟩
        have := hl p (by simp)
        have h1 := hb.1
        rw [upd_ne (by omega)] at h1 ⊢
        exact h1
    exact this hs (fun p hp => by
      have := List.all_eq_true.1 hk p hp
      simp only [Bool.and_eq_true] at this
      exact nblt this.1) hsub
theorem awpHop_ret (i : Nat) {o : Oper} {f : FuncId} {args : List AV} {Hin : List (Nat × Blk)} {n0 n d : Nat} {v : AV} (hD : Does P f args Hin n0 (Ret v n)) {fo : Operand} {xs : Array Operand} {ts : Array TypeId}
    (hi : nth l0 i = some o) (ho : o.op = .call ⟨.value fo, xs, ts⟩) (hdst : o.dst = some d) {l : List AV} (hl : callArgs fr fo xs = some (f, l)) (ha : l = args.map (AV.ren (mp (matchM args l)))) (hw : wantA l0 fr o = some true) (hd : inFrame N o.dst = true) (hk : leB n0 (args.flatMap AV.keys) = true) (hv : v.keys = [])
    (hf : FitB H (mp (matchM args l)) Hin) (hok : okCall n0 nx (matchM args l) Hin = true) (hno : noOwn Hin = true) (hsub : SubB H hs) (hkb : keysB nxs hs = true)
    (h : awpH P E N l0 Q ρs nxs hs fuel (listed.setIfInBounds i true) ⟨upd fr d v, H, nx⟩) : awpHop P E N l0 Q ρs nxs hs fuel listed i ⟨fr, H, nx⟩ :=
  awpHop_op i hi hw hd hkb (OpR.ret hD ho (matchM args l) (ha ▸ hl) hk hv hf hok hno) fun _ _ _ ⟨e1, e2, e3⟩ => by subst e1 e2 e3; rw [hdst]; exact ⟨hsub, h⟩
theorem awpHop_one (i : Nat) {o : Oper} {f : FuncId} {args : List AV} {Hin : List (Nat × Blk)} {n0 d : Nat} {Out : AV → List (Nat × Blk) → Nat → Prop} (hD : Does P f args Hin n0 Out) {fo : Operand} {xs : Array Operand} {ts : Array TypeId}
    (hi : nth l0 i = some o) (ho : o.op = .call ⟨.value fo, xs, ts⟩) (hdst : o.dst = some d) {l : List AV} (hl : callArgs fr fo xs = some (f, l)) (ha : l = args.map (AV.ren (mp (matchM args l)))) (hw : wantA l0 fr o = some true) (hd : inFrame N o.dst = true) (hk : leB n0 (args.flatMap AV.keys) = true)
    (hf : FitB H (mp (matchM args l)) Hin) (hok : okCall n0 nx (matchM args l) Hin = true) (hno : noOwn Hin = true) (hout : ∀ v Hout n1, Out v Hout n1 → ∃ b, Hout = [(n0, b)] ∧ n1 = n0 + 1 ∧ b.keys = []) (hsub : SubB H hs) (hkb : keysB nxs hs = true) (hlt : Nat.ble nxs nx = true)
    (h : ∀ v b, Out v [(n0, b)] (n0 + 1) → awpH P E N l0 Q ρs nxs hs fuel (listed.setIfInBounds i true) ⟨upd fr d (v.ren (mq (matchM args l) n0 nx)), upd H nx b, nx + 1⟩) : awpHop P E N l0 Q ρs nxs hs fuel listed i ⟨fr, H, nx⟩ :=
  awpHop_op i hi hw hd hkb (OpR.one hD ho (matchM args l) (ha ▸ hl) hk hf hok hno hout) fun _ _ _ ⟨v, b, h1, e1, e2, e3⟩ => by
    subst e1 e2 e3
    refine ⟨?_, by rw [hdst]; exact h v b h1⟩
    have hlt := Nat.le_of_ble_eq_true hlt
    have : ∀ (l : List (Nat × Blk)), (∀ p ∈ l, p.1 < nxs) → SubB H l → SubB (upd H nx b) l := fun l => by
      induction l with
      | nil => intro _ _; trivial
      | cons p r ih =>
        intro hl hb
        refine ⟨?_, ih (fun q hq => hl q (by simp [hq])) hb.2⟩
        have := hl p (by simp)
        rw [upd_ne (by omega)]
        exact hb.1
    exact this hs (fun p hp => by
      have := List.all_eq_true.1 hkb p hp
      simp only [Bool.and_eq_true] at this
      exact nblt this.1) hsub
end
attribute [irreducible] awpH awpHop
end Go.Proofs.Ytbgeooalhoaemaa
