/-
  THE ABSTRACT MACHINE, third part: what allocations and stores do to a described world. Own text; over any program.
-/
import Derived.Test.YtbaaelampabhdaaAm2
set_option linter.unusedVariables false
set_option linter.unusedSimpArgs false
namespace Go.Proofs.Ytbaaelampabhdaa
open Go.RowKit

def setR (ρ : Rho) (n : Nat) (p : Option (Nat × Nat)) : Rho := fun k => if k = n then p else ρ k
theorem setR_same {ρ : Rho} {n : Nat} {p : Option (Nat × Nat)} : setR ρ n p n = p := by simp [setR]
theorem setR_ne {ρ : Rho} {n k : Nat} {p : Option (Nat × Nat)} (h : k ≠ n) : setR ρ n p k = ρ k := by simp [setR, h]
/-- a block that this call may write: its own, or one that was handed in as owned -/
def Wr (E : Env) (g : Nat) : Prop := E.base.heap.size ≤ g ∨ ∃ k p, k < E.n0 ∧ E.own0 k ∧ E.ρ0 k = some p ∧ p.1 = g

section
variable {E : Env} {ρ : Rho} {H : Nat → Option Blk} {nx : Nat} {w w' : World}

theorem BlkOK.lt {k : Nat} {b : Blk} {p : Nat × Nat} (h : BlkOK ρ k w b) (hl : b.live = true) (hp : ρ k = some p) : p.1 < w.heap.size := by
  cases b with
  | dead => cases hl
  | ro e => simp only [BlkOK, hp] at h; exact h.1 (Blk.live_ro hl)
  | own t cap e =>
    simp only [BlkOK] at h
    exact (World.ownsRow.lt h p.1 (by simp [adr, hp, Value.ownBlock])).2
theorem BlkOK.grown {k : Nat} {b : Blk} {row : Option Nat} (h : BlkOK ρ k w b) (hg : w.grownBy w' row) (hne : b.live = true → ∀ p, ρ k = some p → some p.1 ≠ row) : BlkOK ρ k w' b := by
  cases b with
  | dead => trivial
  | ro e =>
    simp only [BlkOK] at h ⊢
    cases hp : ρ k with
    | none => rw [hp] at h; exact h
    | some p =>
      rw [hp] at h
      refine ⟨fun h0 => Nat.lt_of_lt_of_le (h.1 h0) hg.size, fun j u hu => hg.cell (h.2 j u hu) (hne ?_ p hp)⟩
      exact Classical.byContradiction fun hn => by rw [Elts.none_at hn j] at hu; cases hu
  | own t cap e =>
    simp only [BlkOK] at h ⊢
    refine World.ownsRow.kept h hg ?_
    cases hp : ρ k with
    | none => left; simp [adr, hp, Value.ownBlock]
    | some p => right; simpa [adr, hp, Value.ownBlock] using hne rfl p hp
theorem HInv.hb (h : HInv E ρ H nx w) : HB ρ H nx w := ⟨h.nil, Nat.lt_of_lt_of_le h.pos h.n0, h.blk, h.key⟩
theorem HInv.wr (h : HInv E ρ H nx w) {k : Nat} {b : Blk} {p : Nat × Nat} (hk : H k = some b) (ho : b.isOwn = true) (hp : ρ k = some p) : Wr E p.1 := by
  have hl : b.live = true := by cases b <;> first | rfl | cases ho
  rcases Nat.lt_or_ge k E.n0 with h0 | h0
  · exact .inr ⟨k, p, h0, h.old k b hk ho h0, by rw [← h.ent k h0]; exact hp, rfl⟩
  · exact h.new k b p hk hl h0 hp
theorem Keeps.grown (h : Keeps E w) {row : Option Nat} (hg : w.grownBy w' row) (hwr : ∀ g, row = some g → Wr E g) : Keeps E w' := by
  refine ⟨hg.os.trans h.os, hg.tape.trans h.tape, hg.output.trans h.output, Nat.le_trans h.size hg.size, fun b hb hno => ?_⟩
  rw [← h.block b hb hno]
  refine hg.block b (Nat.lt_of_lt_of_le hb h.size) fun e => ?_
  rcases hwr b e.symm with h1 | ⟨k, p, h1, h2, h3, h4⟩
  · omega
  · exact hno k p h1 h2 h3 h4
/-- A new key, for memory that none of the live keys has. -/
theorem HInv.add (h : HInv E ρ H nx w) {row : Option Nat} (hg : w.grownBy w' row) (hwr : ∀ g, row = some g → Wr E g)
    (hrow : ∀ k b p, H k = some b → b.live = true → ρ k = some p → some p.1 ≠ row) {p : Option (Nat × Nat)}
    (hp : ∀ q, p = some q → Wr E q.1 ∧ ∀ k b p', H k = some b → b.live = true → ρ k = some p' → p'.1 ≠ q.1)
    {b : Blk} (hb : BlkOK (setR ρ nx p) nx w' b) (hk : ∀ k ∈ b.keys, k < nx) : HInv E (setR ρ nx p) (upd H nx b) (nx + 1) w' := by
  have h0 : 0 < nx := Nat.lt_of_lt_of_le h.pos h.n0
  have hold : ∀ k, k < nx → setR ρ nx p k = ρ k := fun k hk => setR_ne (by omega)
  have hcase : ∀ k b', upd H nx b k = some b' → (k = nx ∧ b' = b) ∨ (k < nx ∧ H k = some b') := fun k b' hu => by
    by_cases e : k = nx
    · subst e; rw [upd_same] at hu; cases hu; exact .inl ⟨rfl, rfl⟩
    · rw [upd_ne e] at hu; exact .inr ⟨(h.key k b' hu).1, hu⟩
  refine ⟨by rw [hold 0 h0]; exact h.nil, fun k b' hu => ?_, fun k b' hu => ?_, fun k k' b1 b2 p1 p2 h1 h2 ho hl hne e1 e2 => ?_, fun k b' q hu hl hn e => ?_, fun k b' hu ho hn => ?_, h.keeps.grown hg hwr, fun k hk => ?_, Nat.le_succ_of_le h.n0, h.pos⟩
  · rcases hcase k b' hu with ⟨rfl, rfl⟩ | ⟨hlt, hu⟩
    · exact hb
    · exact ((h.blk k b' hu).grown hg (fun hl q hq => hrow k b' q hu hl hq)).congr (hold k hlt) fun k' hk' => hold k' ((h.key k b' hu).2 k' hk')
  · rcases hcase k b' hu with ⟨rfl, rfl⟩ | ⟨hlt, hu⟩
    · exact ⟨Nat.lt_succ_self _, fun k' hk' => Nat.lt_succ_of_lt (hk k' hk')⟩
    · exact ⟨Nat.lt_succ_of_lt hlt, fun k' hk' => Nat.lt_succ_of_lt ((h.key k b' hu).2 k' hk')⟩
  · rcases hcase k b1 h1 with ⟨rfl, rfl⟩ | ⟨hlt, h1'⟩
    · rcases hcase k' b2 h2 with ⟨rfl, rfl⟩ | ⟨hlt', h2⟩
      · exact absurd rfl hne
      · rw [setR_same] at e1
        rw [hold k' hlt'] at e2
        exact fun e => (hp p1 e1).2 k' b2 p2 h2 hl e2 e.symm
    · rcases hcase k' b2 h2 with ⟨rfl, rfl⟩ | ⟨hlt', h2⟩
      · rw [setR_same] at e2
        rw [hold k hlt] at e1
        have hl1 : b1.live = true := by cases b1 <;> first | rfl | cases ho
        exact (hp p2 e2).2 k b1 p1 h1' hl1 e1
      · rw [hold k hlt] at e1
        rw [hold k' hlt'] at e2
        exact h.inj k k' b1 b2 p1 p2 h1' h2 ho hl hne e1 e2
  · rcases hcase k b' hu with ⟨rfl, rfl⟩ | ⟨hlt, hu⟩
    · rw [setR_same] at e; exact (hp q e).1
    · rw [hold k hlt] at e; exact h.new k b' q hu hl hn e
  · rcases hcase k b' hu with ⟨rfl, rfl⟩ | ⟨hlt, hu⟩
    · have := h.n0; omega
    · exact h.old k b' hu ho hn
  · rw [hold k (Nat.lt_of_lt_of_le hk h.n0)]; exact h.ent k hk
theorem HInv.addNew (h : HInv E ρ H nx w) (hg : w.grownBy w' none) {b : Blk} (hb : BlkOK (setR ρ nx (some (w.heap.size, 0))) nx w' b) (hk : ∀ k ∈ b.keys, k < nx) :
    HInv E (setR ρ nx (some (w.heap.size, 0))) (upd H nx b) (nx + 1) w' :=
  h.add hg (fun _ e => by cases e) (fun _ _ _ _ _ _ e => by cases e) (fun q e => by
    cases e
    exact ⟨.inl h.keeps.size, fun k b p' hk hl hp' => Nat.ne_of_lt ((h.blk k b hk).lt hl hp')⟩) hb hk
/-- Another content of an owned block. -/
theorem HInv.over (h : HInv E ρ H nx w) {k : Nat} {t : TypeId} {cap : Nat} {e e' : Elts} {p : Nat × Nat} (hk : H k = some (.own t cap e)) (hp : ρ k = some p) (hg : w.grownBy w' (some p.1))
    (hb : BlkOK ρ k w' (.own t cap e')) (hks : ∀ k' ∈ e'.keys, k' < nx) : HInv E ρ (upd H k (.own t cap e')) nx w' := by
  have hcase : ∀ k1 b', upd H k (.own t cap e') k1 = some b' → (k1 = k ∧ b' = .own t cap e') ∨ (k1 ≠ k ∧ H k1 = some b') := fun k1 b' hu => by
    by_cases c : k1 = k
    · subst c; rw [upd_same] at hu; cases hu; exact .inl ⟨rfl, rfl⟩
    · rw [upd_ne c] at hu; exact .inr ⟨c, hu⟩
  refine ⟨h.nil, fun k1 b' hu => ?_, fun k1 b' hu => ?_, fun k1 k2 b1 b2 p1 p2 h1 h2 ho hl hne e1 e2 => ?_, fun k1 b' q hu hl hn e => ?_, fun k1 b' hu ho hn => ?_, h.keeps.grown hg (fun g e => by cases e; exact h.wr hk rfl hp), h.ent, h.n0, h.pos⟩
  · rcases hcase k1 b' hu with ⟨rfl, rfl⟩ | ⟨c, hu⟩
    · exact hb
    · exact (h.blk k1 b' hu).grown hg fun hl q hq e => h.inj k k1 _ b' p q hk hu rfl hl (Ne.symm c) hp hq (by injection e with e; exact e.symm)
  · rcases hcase k1 b' hu with ⟨rfl, rfl⟩ | ⟨c, hu⟩
    · exact ⟨(h.key _ _ hk).1, hks⟩
    · exact h.key k1 b' hu
  · rcases hcase k1 b1 h1 with ⟨rfl, rfl⟩ | ⟨c, h1'⟩
    · rcases hcase k2 b2 h2 with ⟨rfl, rfl⟩ | ⟨c2, h2'⟩
      · exact absurd rfl hne
      · exact h.inj k1 k2 _ b2 p1 p2 hk h2' rfl hl hne e1 e2
    · rcases hcase k2 b2 h2 with ⟨rfl, rfl⟩ | ⟨c2, h2'⟩
      · exact h.inj k1 k2 b1 _ p1 p2 h1' hk ho rfl hne e1 e2
      · exact h.inj k1 k2 b1 b2 p1 p2 h1' h2' ho hl hne e1 e2
  · rcases hcase k1 b' hu with ⟨rfl, rfl⟩ | ⟨c, hu⟩
    · exact h.new k1 _ q hk rfl hn e
    · exact h.new k1 b' q hu hl hn e
  · rcases hcase k1 b' hu with ⟨rfl, rfl⟩ | ⟨c, hu⟩
    · exact h.old k1 _ hk rfl hn
    · exact h.old k1 b' hu ho hn
theorem HInv.kill (h : HInv E ρ H nx w) {k : Nat} (hk : k < nx) : HInv E ρ (upd H k .dead) nx w := by
  have hcase : ∀ k1 b', upd H k .dead k1 = some b' → b' = .dead ∨ H k1 = some b' := fun k1 b' hu => by
    by_cases c : k1 = k
    · subst c; rw [upd_same] at hu; cases hu; exact .inl rfl
    · rw [upd_ne c] at hu; exact .inr hu
  refine ⟨h.nil, fun k1 b' hu => ?_, fun k1 b' hu => ?_, fun k1 k2 b1 b2 p1 p2 h1 h2 ho hl hne e1 e2 => ?_, fun k1 b' q hu hl hn e => ?_, fun k1 b' hu ho hn => ?_, h.keeps, h.ent, h.n0, h.pos⟩
  · rcases hcase k1 b' hu with rfl | hu
    · trivial
    · exact h.blk k1 b' hu
  · by_cases c : k1 = k
    · subst c; rw [upd_same] at hu; cases hu; exact ⟨hk, fun _ h => by cases h⟩
    · rw [upd_ne c] at hu; exact h.key k1 b' hu
  · rcases hcase k1 b1 h1 with rfl | h1
    · cases ho
    · rcases hcase k2 b2 h2 with rfl | h2
      · cases hl
      · exact h.inj k1 k2 b1 b2 p1 p2 h1 h2 ho hl hne e1 e2
  · rcases hcase k1 b' hu with rfl | hu
    · cases hl
    · exact h.new k1 b' q hu hl hn e
  · rcases hcase k1 b' hu with rfl | hu
    · cases ho
    · exact h.old k1 b' hu ho hn
theorem HInv.drew (h : HInv E ρ H nx w) : HInv E ρ H nx { w with drawn := w.drawn + 1 } := by
  have hg : w.grownBy { w with drawn := w.drawn + 1 } none := ⟨rfl, rfl, rfl, Nat.le_refl _, fun _ _ _ => rfl⟩
  exact ⟨h.nil, fun k b hk => (h.blk k b hk).grown hg (fun _ _ _ e => by cases e), h.key, h.inj, h.new, h.old, h.keeps.grown hg (fun _ e => by cases e), h.ent, h.n0, h.pos⟩
end
end Go.Proofs.Ytbaaelampabhdaa
