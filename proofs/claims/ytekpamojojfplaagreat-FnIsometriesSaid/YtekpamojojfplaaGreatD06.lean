/-
  TEXTS OF THE PROOF, put together: Am6, Tab.
-/
import Derived.Test.YtekpamojojfplaaGreatD05
import Derived.Deep.Quiet
import Derived.Test.YtekpamojojfplaaGreatProg
set_option linter.unusedVariables false
set_option linter.unusedSimpArgs false
namespace Go.Proofs.YtekpamojojfplaaGreat
open Go.RowKit
def Ret (v : AV) (n : Nat) : AV → List (Nat × Blk) → Nat → Prop := fun v' Hout n1 => v' = v ∧ Hout = [] ∧ n1 = n
def noOwn (Hin : List (Nat × Blk)) : Bool := Hin.all fun p => !p.2.isOwn
section
variable {P : Program} {tab : List (Nat × TD)} {E : Env} {N : Nat} {Q : Post} {σ : St} {fr : Nat → Option AV} {H : Nat → Option Blk} {nx : Nat}
theorem HInv.restrict {ρ ρ2 : Rho} {H H2 : Nat → Option Blk} {nx nx2 : Nat} {w : World} (h : HInv E ρ2 H2 nx2 w) (hk : ∀ k b, H k = some b → k < nx ∧ ∀ k' ∈ b.keys, k' < nx) (hH : ∀ k b, H k = some b → H2 k = some b)
    (hρ : ∀ k, k < nx → ρ2 k = ρ k) (hn : E.n0 ≤ nx) : HInv E ρ H nx w := by
  have h0 : 0 < nx := Nat.lt_of_lt_of_le h.pos hn
  refine ⟨by rw [← hρ 0 h0]; exact h.nil, fun k b hb => (h.blk k b (hH k b hb)).congr (hρ k (hk k b hb).1).symm (fun k' hk' => (hρ k' ((hk k b hb).2 k' hk')).symm), hk, fun k k' b b' p p' hb hb' ho hl hne e e' => ?_, fun k b p hb hl ha hn' e => ?_, fun k b hb ho hn' => h.old k b (hH k b hb) ho hn', h.keeps, fun k hk' => ?_, hn, h.pos, fun k b hb => h.rows k b (hH k b hb), fun k k' b b' p g hb hb' ho e hf => ?_, fun k k' t t' q q' l l' hb hb' hne => h.tt k k' t t' q q' l l' (hH k _ hb) (hH k' _ hb') hne, fun k t q l hb => h.tw k t q l (hH k _ hb), fun k k' t q l e p hb hb' hl e' => ?_⟩
  · rw [← hρ k (hk k b hb).1] at e
    rw [← hρ k' (hk k' b' hb').1] at e'
    exact h.inj k k' b b' p p' (hH k b hb) (hH k' b' hb') ho hl hne e e'
  · rw [← hρ k (hk k b hb).1] at e
    exact h.new k b p (hH k b hb) hl ha hn' e
  · rw [← hρ k (Nat.lt_of_lt_of_le hk' hn)]; exact h.ent k hk'
  · rw [← hρ k (hk k b hb).1] at e
    exact h.far k k' b b' p g (hH k b hb) (hH k' b' hb') ho e hf
  · rw [← hρ k' (hk k' _ hb').1] at e'
    exact h.tr k k' t q l e p (hH k _ hb) (hH k' _ hb') hl e'
theorem noOwn_in {Hin : List (Nat × Blk)} (h : noOwn Hin = true) (k : Nat) : ownIn Hin k = false := by
  unfold ownIn
  split
  · rename_i b hb
    have := List.all_eq_true.1 h _ (lk_mem hb)
    simpa using this
  · rfl
theorem noOwn_tok {Hin : List (Nat × Blk)} (h : noOwn Hin = true) : hasTok Hin = false := by
  apply List.any_eq_false.2
  intro p hp
  have := List.all_eq_true.1 h p hp
  cases hb : p.2 <;> simp [hb, Blk.isOwn, Blk.isTok] at this ⊢
theorem noOwn_any {Hin : List (Nat × Blk)} (h : noOwn Hin = true) (f : Nat → Bool) : Hin.any (fun p => p.2.isOwn && f p.1) = false := by
  apply List.any_eq_false.2
  intro p hp
  have := List.all_eq_true.1 h p hp
  simp at this
  simp [this]
theorem after_old {H : Nat → Option Blk} {m : List (Nat × Nat)} {n0 nx : Nat} {Hin Hout : List (Nat × Blk)} (h : noOwn Hin = true) {k : Nat} (hk : k < nx) : afterH H m n0 nx Hin Hout k = H k := by
  unfold afterH
  split
  · rename_i b hb
    obtain ⟨j, b0, _, h2, _, h3⟩ := outL_at hb
    rcases h3 with h3 | h3
    · unfold mq at h2
      cases c : Nat.blt j n0 with
      | true => have := nblt c; omega
      | false => rw [c] at h2; simp only [cond_false] at h2; omega
    · rw [noOwn_in h j] at h3; cases h3.1
  · rw [noOwn_any h (fun k' => Nat.beq (mp m k') k), noOwn_tok h]; rfl
theorem OpR.ret {o : Oper} {f : FuncId} {args : List AV} {Hin : List (Nat × Blk)} {n0 n : Nat} {v : AV} (hD : Does P f args Hin n0 (Ret v n)) {fo : Operand} {xs : Array Operand} {ts : Array TypeId}
    (ho : o.op = .call ⟨.value fo, xs, ts⟩) (m : List (Nat × Nat)) (ha : callArgs σ.fr fo xs = some (f, args.map (AV.ren (mp m)))) (hk : leB n0 (args.flatMap AV.keys) = true) (hv : v.keys = [])
    (hf : FitB σ.H (mp m) Hin) (hok : okCall n0 σ.nx m Hin = true) (hno : noOwn Hin = true) : OpR P o E N σ (det v σ.H σ.nx) := by
  intro ρ a w hI K Q hK
  refine OpR.call hD ho m ha hk hf hok ρ a w hI K Q fun ρ' w' v' H' nx' hR hH hρ hn hk' => ?_
  obtain ⟨v1, Hout, n1, ⟨e1, e2, e3⟩, e4, e5, e6⟩ := hR
  subst e1
  have hvr : v'.conc ρ' = v1.conc ρ := by
    rw [e4, AV.conc_ren]; exact AV.conc_congr fun k hk => by rw [hv] at hk; cases hk
  rw [hvr]
  refine hK ρ w' v1 σ.H σ.nx ⟨rfl, rfl, rfl⟩ ?_ (fun _ _ => rfl) (Nat.le_refl _) (by simp [hv])
  refine hH.restrict hI.h.key (fun k b hb => ?_) hρ hI.h.n0
  rw [e5, after_old hno (hI.h.key k b hb).1]; exact hb
theorem w_z {l0 rest : List Oper} {o : Oper} {f : FuncId} {args : List AV} {Hin : List (Nat × Blk)} {n0 n d : Nat} {v : AV} (hD : Does P f args Hin n0 (Ret v n)) {fo : Operand} {xs : Array Operand} {ts : Array TypeId}
    (ho : o.op = .call ⟨.value fo, xs, ts⟩) (hdst : o.dst = some d) {l : List AV} (hl : callArgs fr fo xs = some (f, l)) (ha : l = args.map (AV.ren (mp (matchM args l)))) (hw : wantA l0 fr o = some true) (hd : inFrame N o.dst = true) (hk : leB n0 (args.flatMap AV.keys) = true) (hv : v.keys = [])
    (hf : FitB H (mp (matchM args l)) Hin) (hok : okCall n0 nx (matchM args l) Hin = true) (hno : noOwn Hin = true)
    (h : awpL P E N l0 Q rest ⟨upd fr d v, H, nx⟩) : awpL P E N l0 Q (o :: rest) ⟨fr, H, nx⟩ :=
  w_H (σ := ⟨fr, H, nx⟩) hw hd (OpR.ret hD ho (matchM args l) (ha ▸ hl) hk hv hf hok hno) fun _ _ _ ⟨e1, e2, e3⟩ => by subst e1 e2 e3; rw [hdst]; exact h
theorem OpR.one {o : Oper} {f : FuncId} {args : List AV} {Hin : List (Nat × Blk)} {n0 : Nat} {Out : AV → List (Nat × Blk) → Nat → Prop} (hD : Does P f args Hin n0 Out) {fo : Operand} {xs : Array Operand} {ts : Array TypeId}
    (ho : o.op = .call ⟨.value fo, xs, ts⟩) (m : List (Nat × Nat)) (ha : callArgs σ.fr fo xs = some (f, args.map (AV.ren (mp m)))) (hk : leB n0 (args.flatMap AV.keys) = true)
    (hf : FitB σ.H (mp m) Hin) (hok : okCall n0 σ.nx m Hin = true) (hno : noOwn Hin = true) (hout : ∀ v Hout n1, Out v Hout n1 → ∃ b, Hout = [(n0, b)] ∧ n1 = n0 + 1 ∧ b.keys = []) :
    OpR P o E N σ fun v' H' nx' => ∃ v b, Out v [(n0, b)] (n0 + 1) ∧ v' = v.ren (mq m n0 σ.nx) ∧ H' = upd σ.H σ.nx b ∧ nx' = σ.nx + 1 := by
  intro ρ a w hI K Q hK
  refine OpR.call hD ho m ha hk hf hok ρ a w hI K Q fun ρ' w' v' H' nx' hR hH hρ hn hk' => ?_
  obtain ⟨v1, Hout, n1, e1, e4, e5, e6⟩ := hR
  obtain ⟨b, rfl, rfl, hbk⟩ := hout _ _ _ e1
  subst e5 e6
  have hnx : σ.nx + (n0 + 1 - n0) = σ.nx + 1 := by omega
  have hb : ∀ mm, b.ren mm = b := fun mm => by
    have ren0 : ∀ (l : List SV), keysOf l = [] → l.map (SV.ren mm) = l := fun l hl => by
      have : ∀ s ∈ l, s.keys = [] := fun s hs => List.eq_nil_iff_forall_not_mem.2 fun k hk => by
        have : k ∈ keysOf l := List.mem_flatMap.2 ⟨s, hs, hk⟩
        rw [hl] at this; cases this
      conv => rhs; rw [← List.map_id l]
      refine List.map_congr_left fun s hs => ?_
      have := this s hs
      cases s <;> simp [SV.keys] at this <;> simp [SV.ren, this]
    cases b with
    | dead => rfl
    | ro e =>
      cases e with
      | lit l => exact congrArg (fun x => Blk.ro (Elts.lit x)) (ren0 l hbk)
      | ints l => rfl
      | i2 l => rfl
      | i3 l => rfl
      | bytes l => rfl
      | rows q f l => rfl
      | vals f l => rfl
      | mats f l => rfl
    | own t c e =>
      cases e with
      | lit l => exact congrArg (fun x => Blk.own t c (Elts.lit x)) (ren0 l hbk)
      | ints l => rfl
      | i2 l => rfl
      | i3 l => rfl
      | bytes l => rfl
      | rows q f l => rfl
      | vals f l => rfl
      | mats f l => rfl
    | al a e =>
      cases e with
      | lit l => exact congrArg (fun x => Blk.al a (Elts.lit x)) (ren0 l hbk)
      | ints l => rfl
      | i2 l => rfl
      | i3 l => rfl
      | bytes l => rfl
      | rows q f l => rfl
      | vals f l => rfl
      | mats f l => rfl
    | tok t q l => rfl
  refine hK ρ' w' v' (upd σ.H σ.nx b) (σ.nx + 1) ⟨v1, b, e1, e4, rfl, rfl⟩ ?_ hρ (Nat.le_succ _) (fun k hk => by have := hk' k hk; omega)
  have hmq : mq m n0 σ.nx n0 = σ.nx := by
    unfold mq
    cases c : Nat.blt n0 n0 with
    | true => exact absurd (nblt c) (by omega)
    | false => simp
  refine hH.restrict (fun k b' hb' => ?_) (fun k b' hb' => ?_) (fun k _ => rfl) (Nat.le_succ_of_le hI.h.n0)
  · by_cases c : k = σ.nx
    · subst c; rw [upd_same] at hb'; cases hb'; exact ⟨Nat.lt_succ_self _, by simp [hbk]⟩
    · rw [upd_ne c] at hb'
      obtain ⟨f1, f2⟩ := hI.h.key k b' hb'
      exact ⟨Nat.lt_succ_of_lt f1, fun k' hk' => Nat.lt_succ_of_lt (f2 k' hk')⟩
  · by_cases c : k = σ.nx
    · subst c; rw [upd_same] at hb'; cases hb'
      unfold afterH outL
      rw [show Nat.ble n0 n0 = true by simp]
      simp only [Bool.true_or, cond_true, outL, lk, hmq, hb]
      simp
    · rw [upd_ne c] at hb'
      rw [after_old hno (hI.h.key k b' hb').1]; exact hb'
theorem w_C {l0 rest : List Oper} {o : Oper} {f : FuncId} {args : List AV} {Hin : List (Nat × Blk)} {n0 d : Nat} {Out : AV → List (Nat × Blk) → Nat → Prop} (hD : Does P f args Hin n0 Out) {fo : Operand} {xs : Array Operand} {ts : Array TypeId}
    (ho : o.op = .call ⟨.value fo, xs, ts⟩) (hdst : o.dst = some d) {l : List AV} (hl : callArgs fr fo xs = some (f, l)) (ha : l = args.map (AV.ren (mp (matchM args l)))) (hw : wantA l0 fr o = some true) (hd : inFrame N o.dst = true) (hk : leB n0 (args.flatMap AV.keys) = true)
    (hf : FitB H (mp (matchM args l)) Hin) (hok : okCall n0 nx (matchM args l) Hin = true) (hno : noOwn Hin = true) (hout : ∀ v Hout n1, Out v Hout n1 → ∃ b, Hout = [(n0, b)] ∧ n1 = n0 + 1 ∧ b.keys = [])
    (h : ∀ v b, Out v [(n0, b)] (n0 + 1) → awpL P E N l0 Q rest ⟨upd fr d (v.ren (mq (matchM args l) n0 nx)), upd H nx b, nx + 1⟩) : awpL P E N l0 Q (o :: rest) ⟨fr, H, nx⟩ :=
  w_H (σ := ⟨fr, H, nx⟩) hw hd (OpR.one hD ho (matchM args l) (ha ▸ hl) hk hf hok hno hout) fun _ _ _ ⟨v, b, h1, e1, e2, e3⟩ => by subst e1 e2 e3; rw [hdst]; exact h v b h1
def awpQ (P : Program) (E : Env) (N : Nat) (l0 : List Oper) (Q : Post) (l : List Oper) (σ : St) : Prop := ∀ ρ a, FInv N ρ σ.fr σ.nx a → (∃ w, HInv E ρ σ.H σ.nx w) → wpQuiet P l0.toArray (fun w' => HInv E ρ σ.H σ.nx w') (fun a' => ∀ w', HInv E ρ σ.H σ.nx w' → lift E N Q .normal a' w') l a
def quietB (l : List Oper) : Bool := l.all fun o => match o.op with
  | .alloc _ => false
  | .box _ _ => false
  | .store _ _ _ => false
  | .makeSlice _ _ _ => false
  | .buildSlice _ _ _ => false
  | .call ⟨.builtin .append, _, _⟩ => false
  | .call ⟨.builtin .copy, _, _⟩ => false
  | _ => true
theorem w_o {id : Nat} {l : List Oper} (hm : P.follows .mixedOrders = true) (_hq : quietB l = true) (hB : Region.lexB .any l.toArray = true) (h : awpQ P E N l Q l σ) : awp P E N (.region id l.toArray true) Q σ := by
  unfold awp
  exact fun ρ a _ hI => wp_region_quiet (C := fun w' => HInv E ρ σ.H σ.nx w') hm hB hI.h.drew (by simpa using h ρ a hI.f ⟨_, hI.h⟩)
theorem w_e {l0 : List Oper} (h : Q .normal σ) : awpQ P E N l0 Q [] σ := fun ρ _ hF _ => wpQuiet_nil fun _ hw => ⟨ρ, σ, ⟨hF, hw⟩, h⟩
theorem w_d (hT : Tab P tab) {l0 rest : List Oper} {o : Oper} {c : Prop} {v : AV} {d : Nat} (hdst : o.dst = some d) (hw : wantA l0 fr o = some true) (hd : Nat.blt d N = true) (hs : pstep tab fr H o.op = some (c, v)) (hc : c)
    (h : awpQ P E N l0 Q rest ⟨upd fr d v, H, nx⟩) : awpQ P E N l0 Q (o :: rest) ⟨fr, H, nx⟩ := fun ρ a hF hex => by
  have hn0 : ∀ w, HInv E ρ H nx w → PS P o a w ρ nx v := fun w hw' => pstep_sound hT hF hw'.hb hs hc
  refine wpQuiet_step fun K hK => ?_
  rw [wantA_sound hF hw, if_pos rfl]
  refine ⟨v.conc ρ, fun w hw' => ?_, hK _ ?_⟩
  · unfold Oper.quietAt
    rw [(hn0 w hw').1]
    exact ⟨rfl, rfl⟩
  · obtain ⟨w0, hw0⟩ := hex
    rw [hdst]
    exact h ρ _ (hF.put (nblt hd) (hn0 w0 hw0).2) ⟨w0, hw0⟩
theorem awpL_wrap {l0 rest : List Oper} {o : Oper} {v : AV} {d : Nat} (hdst : o.dst = some d) (hw : wantA l0 fr o = some true) (hd : inFrame N o.dst = true) (hs : pWrap fr o.op = some v)
    (h : awpL P E N l0 Q rest ⟨upd fr d v, H, nx⟩) : awpL P E N l0 Q (o :: rest) ⟨fr, H, nx⟩ :=
  w_H (σ := ⟨fr, H, nx⟩) hw hd (R := det v H nx) (.of_run fun ρ a w hI => by
    obtain ⟨h1, h2⟩ := pWrap_sound (P := P) (o := o) hI.f hI.h.hb hs
    exact ⟨ρ, w, v, H, nx, h1, ⟨rfl, rfl, rfl⟩, hI.h, fun _ _ => rfl, Nat.le_refl _, h2⟩) fun _ _ _ ⟨e1, e2, e3⟩ => by subst e1 e2 e3; rw [hdst]; exact h
theorem awpQ_wrap {l0 rest : List Oper} {o : Oper} {v : AV} {d : Nat} (hdst : o.dst = some d) (hw : wantA l0 fr o = some true) (hd : Nat.blt d N = true) (hs : pWrap fr o.op = some v)
    (h : awpQ P E N l0 Q rest ⟨upd fr d v, H, nx⟩) : awpQ P E N l0 Q (o :: rest) ⟨fr, H, nx⟩ := fun ρ a hF hex => by
  have hn0 : ∀ w, HInv E ρ H nx w → PS P o a w ρ nx v := fun w hw' => pWrap_sound hF hw'.hb hs
  refine wpQuiet_step fun K hK => ?_
  rw [wantA_sound hF hw, if_pos rfl]
  refine ⟨v.conc ρ, fun w hw' => ?_, hK _ ?_⟩
  · unfold Oper.quietAt
    rw [(hn0 w hw').1]
    exact ⟨rfl, rfl⟩
  · obtain ⟨w0, hw0⟩ := hex
    rw [hdst]
    exact h ρ _ (hF.put (nblt hd) (hn0 w0 hw0).2) ⟨w0, hw0⟩
theorem w_f {l0 rest : List Oper} {o : Oper} {d : Nat} (hw : wantA l0 fr o = some false) (hd : o.dst = some d) (h : awpQ P E N l0 Q rest ⟨upd fr d (.tup []), H, nx⟩) : awpQ P E N l0 Q (o :: rest) ⟨fr, H, nx⟩ := fun ρ a hF hex => by
  refine wpQuiet_step fun K hK => ?_
  rw [wantA_sound hF hw, if_neg (by simp), hd]
  exact hK _ (h ρ _ (hF.skip d) hex)
theorem w_q {l0 rest : List Oper} {o : Oper} {s : Nat} {b : Bool} {g : Nat × Bool} (_hg : o.guard = some g) (_hs : slotOf l0 g.1 = some s) (hb : fr s = some (.one (.bool b)))
    (ht : b = true → awpQ P E N l0 Q (o :: rest) ⟨upd fr s (.one (.bool true)), H, nx⟩)
    (hf : b = false → awpQ P E N l0 Q (o :: rest) ⟨upd fr s (.one (.bool false)), H, nx⟩) : awpQ P E N l0 Q (o :: rest) ⟨fr, H, nx⟩ := fun ρ a hF hex => by
  cases b with
  | true => exact ht rfl ρ a (hF.pin hb rfl) hex
  | false => exact hf rfl ρ a (hF.pin hb rfl) hex
theorem w_A {l0 rest : List Oper} {o : Oper} {f : FuncId} {args : List AV} {Hin : List (Nat × Blk)} {n0 n d : Nat} {v : AV} (hD : Does P f args Hin n0 (Ret v n)) {fo : Operand} {xs : Array Operand} {ts : Array TypeId}
    (ho : o.op = .call ⟨.value fo, xs, ts⟩) (hdst : o.dst = some d) {l : List AV} (hl : callArgs fr fo xs = some (f, l)) (ha : l = args.map (AV.ren (mp (matchM args l)))) (hw : wantA l0 fr o = some true) (hd : inFrame N o.dst = true) (hk : leB n0 (args.flatMap AV.keys) = true) (hv : v.keys = [])
    (hf : FitB H (mp (matchM args l)) Hin) (hok : okCall n0 nx (matchM args l) Hin = true) (hno : noOwn Hin = true)
    (h : awpQ P E N l0 Q rest ⟨upd fr d v, H, nx⟩) : awpQ P E N l0 Q (o :: rest) ⟨fr, H, nx⟩ := fun ρ a hF hex => by
  refine wpQuiet_step fun K hK => ?_
  rw [wantA_sound hF hw, if_pos rfl]
  refine ⟨v.conc ρ, fun w hw' => ?_, hK _ ?_⟩
  · obtain ⟨A, hrun, hc⟩ := call_run (E := E) (σ := ⟨fr, H, nx⟩) hD ho (matchM args l) (ha ▸ hl) hk hf hok ⟨hF, hw'⟩
    have hw2 : HInv E ρ H nx w := hw'
    unfold Oper.quietAt
    rw [hrun]
    refine ⟨rfl, hc.mono fun e w' ⟨ρ2, v1, Hout, n1, ⟨e1, e2, e3⟩, h2, r3, r1, _⟩ => ?_⟩
    subst e1
    refine ⟨?_, r3.restrict hw2.key (fun k b hb => by rw [after_old hno (hw2.key k b hb).1]; exact hb) r1 hw2.n0⟩
    rw [h2, AV.conc_ren]
    exact congrArg _ (AV.conc_congr fun k hk => by rw [hv] at hk; cases hk)
  · rw [hdst] at hd ⊢
    exact h ρ _ (hF.put (nblt hd) (by simp [hv])) hex
theorem SV.ren_id : ∀ (s : SV), s.ren (fun k => k) = s
  | .int _ => rfl
  | .bool _ => rfl
  | .sl .. => rfl
  | .ptr .. => rfl
  | .fn f caps => by simp [SV.ren]
  | .u8 _ => rfl
  | .hd _ _ _ => rfl
theorem svs_ren_id (l : List SV) : l.map (SV.ren fun k => k) = l := by
  conv => rhs; rw [← List.map_id l]
  exact List.map_congr_left fun s _ => SV.ren_id s
theorem TV.ren_id : ∀ (v : TV), v.ren (fun k => k) = v
  | .one s => by simp [TV.ren, SV.ren_id]
  | .agg l => by simp [TV.ren, svs_ren_id]
theorem AV.ren_id : ∀ (v : AV), v.ren (fun k => k) = v
  | .one s => by simp [AV.ren, SV.ren_id]
  | .agg l => by simp [AV.ren, svs_ren_id]
  | .tup l => by
    simp only [AV.ren]
    congr 1
    conv => rhs; rw [← List.map_id l]
    exact List.map_congr_left fun s _ => TV.ren_id s
theorem mp_nil : mp [] = fun k => k := rfl
theorem fin {fn : Func} {n0 : Nat} {Out : AV → List (Nat × Blk) → Nat → Prop} {c : Prop} {v0 : AV} (hr : resA tab fr H fn.results.toList = some (c, v0)) (hc : c) (m : List (Nat × Nat)) (v : AV) (Hout : List (Nat × Blk)) (n1 : Nat)
    (ho : Out v Hout n1) (hv : v0 = v.ren (mp m)) (hw : Weak n0 fr H m [] Hout n1) (hk : leB n1 v.keys = true) (hb : BackedL Hout Hout := by repeat' (first | exact trivial | exact .inl rfl | exact .inr ⟨1, _, _, rfl, fun _ h => h⟩ | exact .inr ⟨2, _, _, rfl, fun _ h => h⟩ | exact .inr ⟨3, _, _, rfl, fun _ h => h⟩ | exact .inr ⟨4, _, _, rfl, fun _ h => h⟩ | exact .inr ⟨5, _, _, rfl, fun _ h => h⟩ | exact .inr ⟨6, _, _, rfl, fun _ h => h⟩ | exact .inr ⟨7, _, _, rfl, fun _ h => h⟩ | exact .inr ⟨8, _, _, rfl, fun _ h => h⟩ | exact .inr ⟨9, _, _, rfl, fun _ h => h⟩ | refine ⟨?_, ?_⟩)) : doneQ tab fn n0 Out .ret ⟨fr, H, nx⟩ := ⟨c, v0, m, v, Hout, n1, hr, hc, ho, hv, hw, hk, hb⟩
theorem fin_n {fn : Func} {n0 : Nat} {Out : AV → List (Nat × Blk) → Nat → Prop} {c : Prop} {v0 : AV} (hr : resA tab fr H fn.results.toList = some (c, v0)) (hc : c) (m : List (Nat × Nat)) (v : AV) (Hout : List (Nat × Blk)) (n1 : Nat)
    (ho : Out v Hout n1) (hv : v0 = v.ren (mp m)) (hw : Weak n0 fr H m [] Hout n1) (hk : leB n1 v.keys = true) (hb : BackedL Hout Hout := by repeat' (first | exact trivial | exact .inl rfl | exact .inr ⟨1, _, _, rfl, fun _ h => h⟩ | exact .inr ⟨2, _, _, rfl, fun _ h => h⟩ | exact .inr ⟨3, _, _, rfl, fun _ h => h⟩ | exact .inr ⟨4, _, _, rfl, fun _ h => h⟩ | exact .inr ⟨5, _, _, rfl, fun _ h => h⟩ | exact .inr ⟨6, _, _, rfl, fun _ h => h⟩ | exact .inr ⟨7, _, _, rfl, fun _ h => h⟩ | exact .inr ⟨8, _, _, rfl, fun _ h => h⟩ | exact .inr ⟨9, _, _, rfl, fun _ h => h⟩ | refine ⟨?_, ?_⟩)) : doneQ tab fn n0 Out .normal ⟨fr, H, nx⟩ := ⟨c, v0, m, v, Hout, n1, hr, hc, ho, hv, hw, hk, hb⟩
theorem fin_ret {fn : Func} {n0 : Nat} {v : AV} {c : Prop} {v0 : AV} (hr : resA tab fr H fn.results.toList = some (c, v0)) (hc : c) (hv : v0 = v) (hk : leB n0 v.keys = true) : doneQ tab fn n0 (Ret v n0) .ret ⟨fr, H, nx⟩ :=
  fin hr hc [] v [] n0 ⟨rfl, rfl, rfl⟩ (by rw [mp_nil, AV.ren_id]; exact hv) ⟨trivial, trivial, by simp [okWeak, okM, okKeys, leB]⟩ hk
end
attribute [irreducible] awpQ
end Go.Proofs.YtekpamojojfplaaGreat
namespace Go.Proofs.YtekpamojojfplaaGreat
def T : List (Nat × TD) := [(2, ⟨.sc, 1, 8, [.int 0], false⟩), (3, ⟨.sc, 1, 8, [.int 0], false⟩), (4, ⟨.sc, 1, 1, [.bool false], false⟩), (5, ⟨.sc, 1, 1, [.u8 0], false⟩), (6, ⟨.sc, 1, 1, [.u8 0], false⟩), (7, ⟨.st [(0, 2), (1, 3), (2, 4), (3, 6)], 4, 24, [.int 0, .int 0, .bool false, .u8 0], false⟩), (8, ⟨.st [(0, 2), (1, 3), (2, 4), (3, 6)], 4, 24, [.int 0, .int 0, .bool false, .u8 0], false⟩), (15, ⟨.sc, 1, 8, [.ptr 0 1 0 0], false⟩), (16, ⟨.sc, 1, 8, [.ptr 0 1 0 0], false⟩), (17, ⟨.sc, 1, 8, [.ptr 0 1 0 0], false⟩), (18, ⟨.st [(0, 17)], 1, 8, [.ptr 0 1 0 0], false⟩), (19, ⟨.st [(0, 17)], 1, 8, [.ptr 0 1 0 0], false⟩), (22, ⟨.sl 5, 1, 24, [.sl 0 1 0 0 0], false⟩), (24, ⟨.sl 3, 1, 24, [.sl 0 1 0 0 0], false⟩), (25, ⟨.st [(0, 3), (1, 3), (2, 24)], 3, 40, [.int 0, .int 0, .sl 0 1 0 0 0], false⟩), (26, ⟨.st [(0, 3), (1, 3), (2, 24)], 3, 40, [.int 0, .int 0, .sl 0 1 0 0 0], false⟩), (32, ⟨.sl 26, 1, 24, [.sl 0 3 0 0 0], false⟩), (46, ⟨.st [(0, 3), (1, 3), (2, 24)], 3, 40, [.int 0, .int 0, .sl 0 1 0 0 0], false⟩), (58, ⟨.sl 24, 1, 24, [.sl 0 1 0 0 0], false⟩), (62, ⟨.sc, 1, 8, [.ptr 0 1 0 0], false⟩), (63, ⟨.st [(0, 26), (3, 26), (6, 58), (7, 3), (8, 32)], 9, 136, [.int 0, .int 0, .sl 0 1 0 0 0, .int 0, .int 0, .sl 0 1 0 0 0, .sl 0 1 0 0 0, .int 0, .sl 0 3 0 0 0], false⟩), (64, ⟨.st [(0, 26), (3, 26), (6, 58), (7, 3), (8, 32)], 9, 136, [.int 0, .int 0, .sl 0 1 0 0 0, .int 0, .int 0, .sl 0 1 0 0 0, .sl 0 1 0 0 0, .int 0, .sl 0 3 0 0 0], false⟩), (73, ⟨.st [(0, 3), (1, 3), (2, 3), (3, 3)], 4, 32, [.int 0, .int 0, .int 0, .int 0], false⟩), (74, ⟨.st [(0, 3), (1, 3), (2, 3), (3, 3)], 4, 32, [.int 0, .int 0, .int 0, .int 0], false⟩), (80, ⟨.sc, 1, 8, [.ptr 0 1 0 0], false⟩), (91, ⟨.sl 94, 1, 24, [.sl 0 2 0 0 0], false⟩), (93, ⟨.st [(0, 24), (1, 3)], 2, 32, [.sl 0 1 0 0 0, .int 0], false⟩), (94, ⟨.st [(0, 24), (1, 3)], 2, 32, [.sl 0 1 0 0 0, .int 0], false⟩), (111, ⟨.st [(0, 22), (1, 3), (2, 3)], 3, 40, [.sl 0 1 0 0 0, .int 0, .int 0], false⟩), (112, ⟨.st [(0, 22), (1, 3), (2, 3)], 3, 40, [.sl 0 1 0 0 0, .int 0, .int 0], false⟩), (123, ⟨.sl 124, 1, 24, [.sl 0 1 0 0 0], false⟩), (124, ⟨.sl 129, 1, 24, [.sl 0 2 0 0 0], false⟩), (128, ⟨.st [(0, 3), (1, 3)], 2, 16, [.int 0, .int 0], true⟩), (129, ⟨.st [(0, 3), (1, 3)], 2, 16, [.int 0, .int 0], true⟩), (134, ⟨.sc, 1, 8, [.ptr 0 1 0 0], false⟩), (136, ⟨.st [(0, 26), (3, 26), (6, 26), (9, 4)], 10, 128, [.int 0, .int 0, .sl 0 1 0 0 0, .int 0, .int 0, .sl 0 1 0 0 0, .int 0, .int 0, .sl 0 1 0 0 0, .bool false], false⟩), (137, ⟨.st [(0, 26), (3, 26), (6, 26), (9, 4)], 10, 128, [.int 0, .int 0, .sl 0 1 0 0 0, .int 0, .int 0, .sl 0 1 0 0 0, .int 0, .int 0, .sl 0 1 0 0 0, .bool false], false⟩), (141, ⟨.st [(0, 123), (1, 124)], 2, 48, [.sl 0 1 0 0 0, .sl 0 2 0 0 0], false⟩), (142, ⟨.st [(0, 123), (1, 124)], 2, 48, [.sl 0 1 0 0 0, .sl 0 2 0 0 0], false⟩), (146, ⟨.sc, 1, 8, [.ptr 0 1 0 0], false⟩), (163, ⟨.sc, 1, 8, [.int 0], false⟩), (179, ⟨.sc, 1, 8, [.ptr 0 1 0 0], false⟩), (185, ⟨.ar 0 16, 0, 0, [], false⟩), (186, ⟨.st [(0, 185)], 0, 0, [], false⟩), (187, ⟨.st [(0, 185)], 0, 0, [], false⟩), (189, ⟨.sc, 1, 1, [.u8 0], false⟩), (190, ⟨.sc, 1, 1, [.u8 0], false⟩), (192, ⟨.sc, 1, 8, [.ptr 0 1 0 0], false⟩)]
theorem tok2 : TOK Tryz.prog 2 ⟨.sc, 1, 8, [.int 0], false⟩ := ⟨by kernel_rfl, by kernel_rfl, rfl, by decide, fun _ => rfl⟩
theorem tok3 : TOK Tryz.prog 3 ⟨.sc, 1, 8, [.int 0], false⟩ := ⟨by kernel_rfl, by kernel_rfl, rfl, by decide, fun _ => rfl⟩
theorem tok4 : TOK Tryz.prog 4 ⟨.sc, 1, 1, [.bool false], false⟩ := ⟨by kernel_rfl, by kernel_rfl, rfl, by decide, fun _ => rfl⟩
theorem tok5 : TOK Tryz.prog 5 ⟨.sc, 1, 1, [.u8 0], false⟩ := ⟨by kernel_rfl, by kernel_rfl, rfl, by decide, fun _ => rfl⟩
theorem tok6 : TOK Tryz.prog 6 ⟨.sc, 1, 1, [.u8 0], false⟩ := ⟨by kernel_rfl, by kernel_rfl, rfl, by decide, fun _ => rfl⟩
theorem tok7 : TOK Tryz.prog 7 ⟨.st [(0, 2), (1, 3), (2, 4), (3, 6)], 4, 24, [.int 0, .int 0, .bool false, .u8 0], false⟩ := ⟨by kernel_rfl, by kernel_rfl, rfl, by decide, fun h => by cases h⟩
theorem tok8 : TOK Tryz.prog 8 ⟨.st [(0, 2), (1, 3), (2, 4), (3, 6)], 4, 24, [.int 0, .int 0, .bool false, .u8 0], false⟩ := ⟨by kernel_rfl, by kernel_rfl, rfl, by decide, fun h => by cases h⟩
theorem tok15 : TOK Tryz.prog 15 ⟨.sc, 1, 8, [.ptr 0 1 0 0], false⟩ := ⟨by kernel_rfl, by kernel_rfl, rfl, by decide, fun _ => rfl⟩
theorem tok16 : TOK Tryz.prog 16 ⟨.sc, 1, 8, [.ptr 0 1 0 0], false⟩ := ⟨by kernel_rfl, by kernel_rfl, rfl, by decide, fun _ => rfl⟩
theorem tok17 : TOK Tryz.prog 17 ⟨.sc, 1, 8, [.ptr 0 1 0 0], false⟩ := ⟨by kernel_rfl, by kernel_rfl, rfl, by decide, fun _ => rfl⟩
theorem tok18 : TOK Tryz.prog 18 ⟨.st [(0, 17)], 1, 8, [.ptr 0 1 0 0], false⟩ := ⟨by kernel_rfl, by kernel_rfl, rfl, by decide, fun h => by cases h⟩
theorem tok19 : TOK Tryz.prog 19 ⟨.st [(0, 17)], 1, 8, [.ptr 0 1 0 0], false⟩ := ⟨by kernel_rfl, by kernel_rfl, rfl, by decide, fun h => by cases h⟩
theorem tok22 : TOK Tryz.prog 22 ⟨.sl 5, 1, 24, [.sl 0 1 0 0 0], false⟩ := ⟨by kernel_rfl, by kernel_rfl, rfl, by decide, fun _ => rfl⟩
theorem tok24 : TOK Tryz.prog 24 ⟨.sl 3, 1, 24, [.sl 0 1 0 0 0], false⟩ := ⟨by kernel_rfl, by kernel_rfl, rfl, by decide, fun _ => rfl⟩
theorem tok25 : TOK Tryz.prog 25 ⟨.st [(0, 3), (1, 3), (2, 24)], 3, 40, [.int 0, .int 0, .sl 0 1 0 0 0], false⟩ := ⟨by kernel_rfl, by kernel_rfl, rfl, by decide, fun h => by cases h⟩
theorem tok26 : TOK Tryz.prog 26 ⟨.st [(0, 3), (1, 3), (2, 24)], 3, 40, [.int 0, .int 0, .sl 0 1 0 0 0], false⟩ := ⟨by kernel_rfl, by kernel_rfl, rfl, by decide, fun h => by cases h⟩
theorem tok32 : TOK Tryz.prog 32 ⟨.sl 26, 1, 24, [.sl 0 3 0 0 0], false⟩ := ⟨by kernel_rfl, by kernel_rfl, rfl, by decide, fun _ => rfl⟩
theorem tok46 : TOK Tryz.prog 46 ⟨.st [(0, 3), (1, 3), (2, 24)], 3, 40, [.int 0, .int 0, .sl 0 1 0 0 0], false⟩ := ⟨by kernel_rfl, by kernel_rfl, rfl, by decide, fun h => by cases h⟩
theorem tok58 : TOK Tryz.prog 58 ⟨.sl 24, 1, 24, [.sl 0 1 0 0 0], false⟩ := ⟨by kernel_rfl, by kernel_rfl, rfl, by decide, fun _ => rfl⟩
theorem tok62 : TOK Tryz.prog 62 ⟨.sc, 1, 8, [.ptr 0 1 0 0], false⟩ := ⟨by kernel_rfl, by kernel_rfl, rfl, by decide, fun _ => rfl⟩
theorem tok63 : TOK Tryz.prog 63 ⟨.st [(0, 26), (3, 26), (6, 58), (7, 3), (8, 32)], 9, 136, [.int 0, .int 0, .sl 0 1 0 0 0, .int 0, .int 0, .sl 0 1 0 0 0, .sl 0 1 0 0 0, .int 0, .sl 0 3 0 0 0], false⟩ := ⟨by kernel_rfl, by kernel_rfl, rfl, by decide, fun h => by cases h⟩
theorem tok64 : TOK Tryz.prog 64 ⟨.st [(0, 26), (3, 26), (6, 58), (7, 3), (8, 32)], 9, 136, [.int 0, .int 0, .sl 0 1 0 0 0, .int 0, .int 0, .sl 0 1 0 0 0, .sl 0 1 0 0 0, .int 0, .sl 0 3 0 0 0], false⟩ := ⟨by kernel_rfl, by kernel_rfl, rfl, by decide, fun h => by cases h⟩
theorem tok73 : TOK Tryz.prog 73 ⟨.st [(0, 3), (1, 3), (2, 3), (3, 3)], 4, 32, [.int 0, .int 0, .int 0, .int 0], false⟩ := ⟨by kernel_rfl, by kernel_rfl, rfl, by decide, fun h => by cases h⟩
theorem tok74 : TOK Tryz.prog 74 ⟨.st [(0, 3), (1, 3), (2, 3), (3, 3)], 4, 32, [.int 0, .int 0, .int 0, .int 0], false⟩ := ⟨by kernel_rfl, by kernel_rfl, rfl, by decide, fun h => by cases h⟩
theorem tok80 : TOK Tryz.prog 80 ⟨.sc, 1, 8, [.ptr 0 1 0 0], false⟩ := ⟨by kernel_rfl, by kernel_rfl, rfl, by decide, fun _ => rfl⟩
theorem tok91 : TOK Tryz.prog 91 ⟨.sl 94, 1, 24, [.sl 0 2 0 0 0], false⟩ := ⟨by kernel_rfl, by kernel_rfl, rfl, by decide, fun _ => rfl⟩
theorem tok93 : TOK Tryz.prog 93 ⟨.st [(0, 24), (1, 3)], 2, 32, [.sl 0 1 0 0 0, .int 0], false⟩ := ⟨by kernel_rfl, by kernel_rfl, rfl, by decide, fun h => by cases h⟩
theorem tok94 : TOK Tryz.prog 94 ⟨.st [(0, 24), (1, 3)], 2, 32, [.sl 0 1 0 0 0, .int 0], false⟩ := ⟨by kernel_rfl, by kernel_rfl, rfl, by decide, fun h => by cases h⟩
theorem tok111 : TOK Tryz.prog 111 ⟨.st [(0, 22), (1, 3), (2, 3)], 3, 40, [.sl 0 1 0 0 0, .int 0, .int 0], false⟩ := ⟨by kernel_rfl, by kernel_rfl, rfl, by decide, fun h => by cases h⟩
theorem tok112 : TOK Tryz.prog 112 ⟨.st [(0, 22), (1, 3), (2, 3)], 3, 40, [.sl 0 1 0 0 0, .int 0, .int 0], false⟩ := ⟨by kernel_rfl, by kernel_rfl, rfl, by decide, fun h => by cases h⟩
theorem tok123 : TOK Tryz.prog 123 ⟨.sl 124, 1, 24, [.sl 0 1 0 0 0], false⟩ := ⟨by kernel_rfl, by kernel_rfl, rfl, by decide, fun _ => rfl⟩
theorem tok124 : TOK Tryz.prog 124 ⟨.sl 129, 1, 24, [.sl 0 2 0 0 0], false⟩ := ⟨by kernel_rfl, by kernel_rfl, rfl, by decide, fun _ => rfl⟩
theorem tok128 : TOK Tryz.prog 128 ⟨.st [(0, 3), (1, 3)], 2, 16, [.int 0, .int 0], true⟩ := ⟨by kernel_rfl, by kernel_rfl, rfl, by decide, fun h => by cases h⟩
theorem eqk128 : EqOK Tryz.prog 128 2 := .two Tryz.underlying128 (by kernel_rfl) (by kernel_rfl) ⟨by decide, rfl, by kernel_rfl⟩ ⟨by decide, rfl, by kernel_rfl⟩
theorem tok129 : TOK Tryz.prog 129 ⟨.st [(0, 3), (1, 3)], 2, 16, [.int 0, .int 0], true⟩ := ⟨by kernel_rfl, by kernel_rfl, rfl, by decide, fun h => by cases h⟩
theorem eqk129 : EqOK Tryz.prog 129 2 := .two Tryz.underlying129 (by kernel_rfl) (by kernel_rfl) ⟨by decide, rfl, by kernel_rfl⟩ ⟨by decide, rfl, by kernel_rfl⟩
theorem tok134 : TOK Tryz.prog 134 ⟨.sc, 1, 8, [.ptr 0 1 0 0], false⟩ := ⟨by kernel_rfl, by kernel_rfl, rfl, by decide, fun _ => rfl⟩
theorem tok136 : TOK Tryz.prog 136 ⟨.st [(0, 26), (3, 26), (6, 26), (9, 4)], 10, 128, [.int 0, .int 0, .sl 0 1 0 0 0, .int 0, .int 0, .sl 0 1 0 0 0, .int 0, .int 0, .sl 0 1 0 0 0, .bool false], false⟩ := ⟨by kernel_rfl, by kernel_rfl, rfl, by decide, fun h => by cases h⟩
theorem tok137 : TOK Tryz.prog 137 ⟨.st [(0, 26), (3, 26), (6, 26), (9, 4)], 10, 128, [.int 0, .int 0, .sl 0 1 0 0 0, .int 0, .int 0, .sl 0 1 0 0 0, .int 0, .int 0, .sl 0 1 0 0 0, .bool false], false⟩ := ⟨by kernel_rfl, by kernel_rfl, rfl, by decide, fun h => by cases h⟩
theorem tok141 : TOK Tryz.prog 141 ⟨.st [(0, 123), (1, 124)], 2, 48, [.sl 0 1 0 0 0, .sl 0 2 0 0 0], false⟩ := ⟨by kernel_rfl, by kernel_rfl, rfl, by decide, fun h => by cases h⟩
theorem tok142 : TOK Tryz.prog 142 ⟨.st [(0, 123), (1, 124)], 2, 48, [.sl 0 1 0 0 0, .sl 0 2 0 0 0], false⟩ := ⟨by kernel_rfl, by kernel_rfl, rfl, by decide, fun h => by cases h⟩
theorem tok146 : TOK Tryz.prog 146 ⟨.sc, 1, 8, [.ptr 0 1 0 0], false⟩ := ⟨by kernel_rfl, by kernel_rfl, rfl, by decide, fun _ => rfl⟩
theorem tok163 : TOK Tryz.prog 163 ⟨.sc, 1, 8, [.int 0], false⟩ := ⟨by kernel_rfl, by kernel_rfl, rfl, by decide, fun _ => rfl⟩
theorem tok179 : TOK Tryz.prog 179 ⟨.sc, 1, 8, [.ptr 0 1 0 0], false⟩ := ⟨by kernel_rfl, by kernel_rfl, rfl, by decide, fun _ => rfl⟩
theorem tok185 : TOK Tryz.prog 185 ⟨.ar 0 16, 0, 0, [], false⟩ := ⟨by kernel_rfl, by kernel_rfl, rfl, by decide, fun h => by cases h⟩
theorem tok186 : TOK Tryz.prog 186 ⟨.st [(0, 185)], 0, 0, [], false⟩ := ⟨by kernel_rfl, by kernel_rfl, rfl, by decide, fun h => by cases h⟩
theorem tok187 : TOK Tryz.prog 187 ⟨.st [(0, 185)], 0, 0, [], false⟩ := ⟨by kernel_rfl, by kernel_rfl, rfl, by decide, fun h => by cases h⟩
theorem tok189 : TOK Tryz.prog 189 ⟨.sc, 1, 1, [.u8 0], false⟩ := ⟨by kernel_rfl, by kernel_rfl, rfl, by decide, fun _ => rfl⟩
theorem tok190 : TOK Tryz.prog 190 ⟨.sc, 1, 1, [.u8 0], false⟩ := ⟨by kernel_rfl, by kernel_rfl, rfl, by decide, fun _ => rfl⟩
theorem tok192 : TOK Tryz.prog 192 ⟨.sc, 1, 8, [.ptr 0 1 0 0], false⟩ := ⟨by kernel_rfl, by kernel_rfl, rfl, by decide, fun _ => rfl⟩
theorem TT : Tab Tryz.prog T :=
  .cons tok2 ⟨(fun _ h => by cases h), (fun _ _ => by kernel_rfl), fun h => by cases h⟩ <|
  .cons tok3 ⟨(fun _ h => by cases h), (fun _ _ => by kernel_rfl), fun h => by cases h⟩ <|
  .cons tok4 ⟨(fun _ _ => by kernel_rfl), (fun _ h => by cases h), fun h => by cases h⟩ <|
  .cons tok5 ⟨(fun _ h => by cases h), (fun _ h => by cases h), fun h => by cases h⟩ <|
  .cons tok6 ⟨(fun _ h => by cases h), (fun _ h => by cases h), fun h => by cases h⟩ <|
  .cons tok7 ⟨(fun h _ => by cases h), (fun h _ => by cases h), fun h => by cases h⟩ <|
  .cons tok8 ⟨(fun h _ => by cases h), (fun h _ => by cases h), fun h => by cases h⟩ <|
  .cons tok15 ⟨(fun _ h => by cases h), (fun _ h => by cases h), fun h => by cases h⟩ <|
  .cons tok16 ⟨(fun _ h => by cases h), (fun _ h => by cases h), fun h => by cases h⟩ <|
  .cons tok17 ⟨(fun _ h => by cases h), (fun _ h => by cases h), fun h => by cases h⟩ <|
  .cons tok18 ⟨(fun h _ => by cases h), (fun h _ => by cases h), fun h => by cases h⟩ <|
  .cons tok19 ⟨(fun h _ => by cases h), (fun h _ => by cases h), fun h => by cases h⟩ <|
  .cons tok22 ⟨(fun h _ => by cases h), (fun h _ => by cases h), fun h => by cases h⟩ <|
  .cons tok24 ⟨(fun h _ => by cases h), (fun h _ => by cases h), fun h => by cases h⟩ <|
  .cons tok25 ⟨(fun h _ => by cases h), (fun h _ => by cases h), fun h => by cases h⟩ <|
  .cons tok26 ⟨(fun h _ => by cases h), (fun h _ => by cases h), fun h => by cases h⟩ <|
  .cons tok32 ⟨(fun h _ => by cases h), (fun h _ => by cases h), fun h => by cases h⟩ <|
  .cons tok46 ⟨(fun h _ => by cases h), (fun h _ => by cases h), fun h => by cases h⟩ <|
  .cons tok58 ⟨(fun h _ => by cases h), (fun h _ => by cases h), fun h => by cases h⟩ <|
  .cons tok62 ⟨(fun _ h => by cases h), (fun _ h => by cases h), fun h => by cases h⟩ <|
  .cons tok63 ⟨(fun h _ => by cases h), (fun h _ => by cases h), fun h => by cases h⟩ <|
  .cons tok64 ⟨(fun h _ => by cases h), (fun h _ => by cases h), fun h => by cases h⟩ <|
  .cons tok73 ⟨(fun h _ => by cases h), (fun h _ => by cases h), fun h => by cases h⟩ <|
  .cons tok74 ⟨(fun h _ => by cases h), (fun h _ => by cases h), fun h => by cases h⟩ <|
  .cons tok80 ⟨(fun _ h => by cases h), (fun _ h => by cases h), fun h => by cases h⟩ <|
  .cons tok91 ⟨(fun h _ => by cases h), (fun h _ => by cases h), fun h => by cases h⟩ <|
  .cons tok93 ⟨(fun h _ => by cases h), (fun h _ => by cases h), fun h => by cases h⟩ <|
  .cons tok94 ⟨(fun h _ => by cases h), (fun h _ => by cases h), fun h => by cases h⟩ <|
  .cons tok111 ⟨(fun h _ => by cases h), (fun h _ => by cases h), fun h => by cases h⟩ <|
  .cons tok112 ⟨(fun h _ => by cases h), (fun h _ => by cases h), fun h => by cases h⟩ <|
  .cons tok123 ⟨(fun h _ => by cases h), (fun h _ => by cases h), fun h => by cases h⟩ <|
  .cons tok124 ⟨(fun h _ => by cases h), (fun h _ => by cases h), fun h => by cases h⟩ <|
  .cons tok128 ⟨(fun h _ => by cases h), (fun h _ => by cases h), fun _ => eqk128⟩ <|
  .cons tok129 ⟨(fun h _ => by cases h), (fun h _ => by cases h), fun _ => eqk129⟩ <|
  .cons tok134 ⟨(fun _ h => by cases h), (fun _ h => by cases h), fun h => by cases h⟩ <|
  .cons tok136 ⟨(fun h _ => by cases h), (fun h _ => by cases h), fun h => by cases h⟩ <|
  .cons tok137 ⟨(fun h _ => by cases h), (fun h _ => by cases h), fun h => by cases h⟩ <|
  .cons tok141 ⟨(fun h _ => by cases h), (fun h _ => by cases h), fun h => by cases h⟩ <|
  .cons tok142 ⟨(fun h _ => by cases h), (fun h _ => by cases h), fun h => by cases h⟩ <|
  .cons tok146 ⟨(fun _ h => by cases h), (fun _ h => by cases h), fun h => by cases h⟩ <|
  .cons tok163 ⟨(fun _ h => by cases h), (fun _ _ => by kernel_rfl), fun h => by cases h⟩ <|
  .cons tok179 ⟨(fun _ h => by cases h), (fun _ h => by cases h), fun h => by cases h⟩ <|
  .cons tok185 ⟨(fun h _ => by cases h), (fun h _ => by cases h), fun h => by cases h⟩ <|
  .cons tok186 ⟨(fun h _ => by cases h), (fun h _ => by cases h), fun h => by cases h⟩ <|
  .cons tok187 ⟨(fun h _ => by cases h), (fun h _ => by cases h), fun h => by cases h⟩ <|
  .cons tok189 ⟨(fun _ h => by cases h), (fun _ h => by cases h), fun h => by cases h⟩ <|
  .cons tok190 ⟨(fun _ h => by cases h), (fun _ h => by cases h), fun h => by cases h⟩ <|
  .cons tok192 ⟨(fun _ h => by cases h), (fun _ h => by cases h), fun h => by cases h⟩ <|
  .nil
theorem TM : Tryz.prog.follows .mixedOrders = true := by kernel_rfl
theorem stp {q p : Prop} (h : q) (i : q → p := by first | exact w_a TT Zz Zz Zz sd | exact w_b | exact w_c Zz Zz | exact w_d TT Zz Zz Zz Zz sd | exact w_e | exact w_f Zz Zz | exact w_g | exact w_h | exact w_i | exact w_j | exact w_k | exact w_l | exact w_m rfl | exact w_n rfl | fail) : p := i h
theorem stx {q p : Prop} (h : q) (i : q → p := by first | exact w_a TT Zz Zz Zz sd | exact w_b | exact w_c Zz Zz | exact w_d TT Zz Zz Zz Zz sd | exact w_e | exact w_f Zz Zz | exact w_g | exact w_h | exact w_i | exact w_j | exact w_k | exact w_l | exact w_m rfl | exact w_n rfl | exact w_o TM rfl kr | fail) : p := i h
theorem stq {p q r : Prop} (h : q) (h' : r) (i : q → r → p := by first | exact w_p Zz Zz Zz | exact w_q Zz Zz Zz | exact w_r rfl | fail) : p := i h h'
end Go.Proofs.YtekpamojojfplaaGreat
