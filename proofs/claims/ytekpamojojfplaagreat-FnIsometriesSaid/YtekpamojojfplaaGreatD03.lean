/-
  TEXTS OF THE PROOF, put together: Am3.
-/
import Derived.Test.YtekpamojojfplaaGreatD02
set_option linter.unusedVariables false
set_option linter.unusedSimpArgs false
namespace Go.Proofs.YtekpamojojfplaaGreat
open Go.RowKit
def setR (ρ : Rho) (n : Nat) (p : Option (Nat × Nat)) : Rho := fun k => if k = n then p else ρ k
theorem setR_same {ρ : Rho} {n : Nat} {p : Option (Nat × Nat)} : setR ρ n p n = p := by simp [setR]
theorem setR_ne {ρ : Rho} {n k : Nat} {p : Option (Nat × Nat)} (h : k ≠ n) : setR ρ n p k = ρ k := by simp [setR, h]
section
variable {E : Env} {ρ : Rho} {H : Nat → Option Blk} {nx : Nat} {w w' : World}
theorem BlkOK.lt {k : Nat} {b : Blk} {p : Nat × Nat} (h : BlkOK ρ k w b) (hl : b.live = true) (hp : ρ k = some p) : p.1 < w.heap.size := by
  cases b with
  | dead => cases hl
  | ro e => simp only [BlkOK, hp] at h; exact h.1 (Blk.live_ro hl)
  | own t cap e =>
    simp only [BlkOK] at h
    exact (World.ownsRow.lt h p.1 (by simp [adr, hp, Value.ownBlock])).2
  | al a e =>
    simp only [BlkOK, hp] at h
    simp only [Blk.live, Bool.not_eq_true'] at hl
    exact h.2.1 (by have := Nat.ne_of_beq_eq_false hl; omega)
  | tok t q l => simp only [BlkOK, hp] at h; cases h.1
theorem RowOwn.lt {t : TypeId} {q : Bool} {r : Row} (h : RowOwn w t q r) {p : Nat × Nat} (hp : r.a = some p) : p.1 < w.heap.size :=
  (World.ownsRow.lt h p.1 (by simp [Row.val, hp, Value.ownBlock])).2
theorem RowAt.lt {q : Bool} {r : Row} (h : RowAt w q r) {p : Nat × Nat} (hp : r.a = some p) (hl : 0 < r.len q) : p.1 < w.heap.size := by
  unfold RowAt at h; rw [hp] at h; exact h.1 hl
theorem Row.svs_len (q : Bool) (r : Row) : (r.svs q).length = r.len q * Row.sz q := by
  cases q with
  | false => simp [Row.svs, Row.len, Row.sz]
  | true => exact flat_len (m := 2) (f := sv2) (fun _ => rfl) r.ps
theorem RowAt.grown {q : Bool} {r : Row} {row : Option Nat} (h : RowAt w q r) (hg : w.grownBy w' row) (hne : ∀ p, r.a = some p → 0 < r.len q → some p.1 ≠ row) : RowAt w' q r := by
  unfold RowAt at h ⊢
  cases hp : r.a with
  | none => rw [hp] at h; exact h
  | some p =>
    rw [hp] at h
    refine ⟨fun h0 => Nat.lt_of_lt_of_le (h.1 h0) hg.size, fun j u hu => hg.cell (h.2 j u hu) (hne p hp ?_)⟩
    have h1 := (List.getElem?_eq_some_iff.1 hu).1
    rw [Row.svs_len] at h1
    rcases Nat.eq_zero_or_pos (r.len q) with h0 | h0
    · rw [h0] at h1; omega
    · exact h0
theorem RowOwn.grown {t : TypeId} {q : Bool} {r : Row} {row : Option Nat} (h : RowOwn w t q r) (hg : w.grownBy w' row) (hne : ∀ p, r.a = some p → some p.1 ≠ row) : RowOwn w' t q r := by
  refine World.ownsRow.kept h hg ?_
  cases hp : r.a with
  | none => left; simp [Row.val, hp, Value.ownBlock]
  | some p => right; simpa [Row.val, hp, Value.ownBlock] using hne p hp
theorem RowOwn.at_ {t : TypeId} {q : Bool} {r : Row} (h : RowOwn w t q r) : RowAt w q r := by
  have h' : w.ownsRow 0 t (Row.sz q) (r.val q) (r.len q) (cells noRho (r.svs q)) := h
  unfold RowAt
  cases hp : r.a with
  | none =>
    rcases h'.2 with ⟨_, h2⟩ | ⟨g, c, cur, hv, _⟩
    · exact h2
    · simp [Row.val, hp] at hv
  | some p =>
    have ho : p.2 = 0 := by
      rcases h'.2 with ⟨hv, _⟩ | ⟨g, c, cur, hv, _⟩
      · simp [Row.val, hp] at hv
      · simp [Row.val, hp] at hv; omega
    refine ⟨fun _ => h.lt hp, fun j u hu => ?_⟩
    have h1 := World.ownsRow.cells (g := p.1) h' (by simp [Row.val, hp, Value.ownBlock]) j (u.conc noRho) (by simp [cells, hu])
    rw [Addr.add_none] at h1
    rw [ho]; exact h1
theorem BlkOK.grown {k : Nat} {b : Blk} {row : Option Nat} (h : BlkOK ρ k w b) (hg : w.grownBy w' row) (hne : b.live = true → ∀ p, ρ k = some p → some p.1 ≠ row) (hfar : ∀ g, b.Far g → some g ≠ row) : BlkOK ρ k w' b := by
  cases b with
  | dead => trivial
  | ro e =>
    simp only [BlkOK] at h ⊢
    cases hp : ρ k with
    | none => rw [hp] at h; exact h
    | some p =>
      rw [hp] at h
      refine ⟨fun h0 => Nat.lt_of_lt_of_le (h.1 h0) hg.size, fun j u hu => hg.cell (h.2 j u hu) (hne ?_ p hp)⟩
      exact Classical.byContradiction fun hn => by rw [Elts.none_at hn j] at hu; cases hu
  | own t cap e =>
    simp only [BlkOK] at h ⊢
    refine World.ownsRow.kept h hg ?_
    cases hp : ρ k with
    | none => left; simp [adr, hp, Value.ownBlock]
    | some p => right; simpa [adr, hp, Value.ownBlock] using hne rfl p hp
  | al a e =>
    simp only [BlkOK] at h ⊢
    refine ⟨h.1, ?_⟩
    replace h := h.2
    cases hp : ρ k with
    | none => rw [hp] at h; exact h
    | some p =>
      rw [hp] at h
      refine ⟨fun h0 => Nat.lt_of_lt_of_le (h.1 h0) hg.size, fun j u hu => hg.cell (h.2 j u hu) (hne ?_ p hp)⟩
      exact Classical.byContradiction fun hn => by rw [Elts.none_al hn j] at hu; cases hu
  | tok t q l =>
    simp only [BlkOK] at h ⊢
    exact ⟨h.1, fun r hr => (h.2.1 r hr).grown hg fun p hp => hfar p.1 ⟨r, hr, p, hp, rfl⟩, h.2.2⟩
theorem HInv.hb (h : HInv E ρ H nx w) : HB ρ H nx w := ⟨h.nil, Nat.lt_of_lt_of_le h.pos h.n0, h.blk, h.key⟩
theorem HInv.wr (h : HInv E ρ H nx w) {k : Nat} {b : Blk} {p : Nat × Nat} (hk : H k = some b) (ho : b.isOwn = true) (hp : ρ k = some p) : Wr E p.1 := by
  have hl : b.live = true := by cases b <;> first | rfl | cases ho
  rcases Nat.lt_or_ge k E.n0 with h0 | h0
  · exact .inr (.inl ⟨k, p, h0, h.old k b hk ho h0, by rw [← h.ent k h0]; exact hp, rfl⟩)
  · refine h.new k b p hk hl ?_ h0 hp
    cases b <;> first | rfl | cases ho
theorem Keeps.grown (h : Keeps E w) {row : Option Nat} (hg : w.grownBy w' row) (hwr : ∀ g, row = some g → Wr E g) : Keeps E w' := by
  refine ⟨hg.os.trans h.os, hg.tape.trans h.tape, hg.output.trans h.output, Nat.le_trans h.size hg.size, fun b hb hno htok => ?_⟩
  rw [← h.block b hb hno htok]
  refine hg.block b (Nat.lt_of_lt_of_le hb h.size) fun e => ?_
  rcases hwr b e.symm with h1 | ⟨k, p, h1, h2, h3, h4⟩ | h1
  · omega
  · exact hno k p h1 h2 h3 h4
  · exact htok h1
theorem HInv.far_lt (h : HInv E ρ H nx w) {k : Nat} {b : Blk} (hk : H k = some b) {g : Nat} (hg : b.Far g) : g < w.heap.size := by
  cases b with
  | tok t q l =>
    obtain ⟨r, hr, p, hp, rfl⟩ := hg
    have := h.blk k _ hk
    simp only [BlkOK] at this
    exact (this.2.1 r hr).lt hp
  | dead => obtain ⟨x, hx, _⟩ := hg; cases hx
  | ro e => obtain ⟨x, hx, h0, p, hp, rfl⟩ := hg; exact (h.rows k _ hk x hx).lt hp h0
  | own t c e => obtain ⟨x, hx, h0, p, hp, rfl⟩ := hg; exact (h.rows k _ hk x hx).lt hp h0
  | al a e => obtain ⟨x, hx, h0, p, hp, rfl⟩ := hg; exact (h.rows k _ hk x hx).lt hp h0
theorem Blk.Far_rds {b : Blk} {x : Bool × Row} (hx : x ∈ b.rds) (h0 : 0 < x.2.len x.1) {p : Nat × Nat} (hp : x.2.a = some p) : b.Far p.1 := by
  cases b with
  | tok t q l => cases hx
  | dead => cases hx
  | ro e => exact ⟨x, hx, h0, p, hp, rfl⟩
  | own t c e => exact ⟨x, hx, h0, p, hp, rfl⟩
  | al a e => exact ⟨x, hx, h0, p, hp, rfl⟩
theorem HInv.add (h : HInv E ρ H nx w) {row : Option Nat} (hg : w.grownBy w' row) (hwr : ∀ g, row = some g → Wr E g)
    (hrow : ∀ k b p, H k = some b → b.live = true → ρ k = some p → some p.1 ≠ row) (hrowf : ∀ k b g, H k = some b → b.Far g → some g ≠ row) {p : Option (Nat × Nat)} {b : Blk}
    (hp : ∀ q, p = some q → b.live = true → (b.isAl = false → Wr E q.1) ∧ (b.isOwn = true → ∀ k b p', H k = some b → b.live = true → ρ k = some p' → p'.1 ≠ q.1) ∧ (∀ k b p', H k = some b → b.isOwn = true → ρ k = some p' → p'.1 ≠ q.1)
      ∧ (b.isAl = false → ∀ k t q' l, H k = some (.tok t q' l) → ∀ r ∈ l, ∀ p', r.a = some p' → q.1 ≠ p'.1) ∧ (b.isOwn = true → (∀ k b' g, H k = some b' → b'.Far g → q.1 ≠ g) ∧ ∀ g, b.Far g → q.1 ≠ g))
    (hrd : ∀ x ∈ b.rds, RowAt w' x.1 x.2) (hfar : ∀ k b' p' g, H k = some b' → b'.isOwn = true → ρ k = some p' → b.Far g → p'.1 ≠ g)
    (htok : ∀ t q l, b = .tok t q l → (∀ k t' q' l', H k = some (.tok t' q' l') → ∀ r ∈ l, ∀ r' ∈ l', Apart r r') ∧ (∀ r ∈ l, ∀ p, r.a = some p → Wr E p.1) ∧ (∀ k e p, H k = some (.ro e) → 0 < e.len → ρ k = some p → ∀ r ∈ l, ∀ p', r.a = some p' → p.1 ≠ p'.1))
    (hb : BlkOK (setR ρ nx p) nx w' b) (hk : ∀ k ∈ b.keys, k < nx) : HInv E (setR ρ nx p) (upd H nx b) (nx + 1) w' := by
  have h0 : 0 < nx := Nat.lt_of_lt_of_le h.pos h.n0
  have hold : ∀ k, k < nx → setR ρ nx p k = ρ k := fun k hk => setR_ne (by omega)
  have hcase : ∀ k b', upd H nx b k = some b' → (k = nx ∧ b' = b) ∨ (k < nx ∧ H k = some b') := fun k b' hu => by
    by_cases e : k = nx
    · subst e; rw [upd_same] at hu; cases hu; exact .inl ⟨rfl, rfl⟩
    · rw [upd_ne e] at hu; exact .inr ⟨(h.key k b' hu).1, hu⟩
  refine ⟨by rw [hold 0 h0]; exact h.nil, fun k b' hu => ?_, fun k b' hu => ?_, fun k k' b1 b2 p1 p2 h1 h2 ho hl hne e1 e2 => ?_, fun k b' q hu hl hal hn e => ?_, fun k b' hu ho hn => ?_, h.keeps.grown hg hwr, fun k hk => ?_, Nat.le_succ_of_le h.n0, h.pos, fun k b' hu x hx => ?_, fun k k' b1 b2 p1 g h1 h2 ho e1 hf => ?_, fun k k' t t' q q' l l' h1 h2 hne r hr r' hr' => ?_, fun k t q l h1 r hr p' hp' => ?_, fun k k' t q l e p1 h1 h2 hl e1 r hr p' hp' => ?_⟩
  · rcases hcase k b' hu with ⟨rfl, rfl⟩ | ⟨hlt, hu⟩
    · exact hb
    · exact ((h.blk k b' hu).grown hg (fun hl q hq => hrow k b' q hu hl hq) fun g hg' => hrowf k b' g hu hg').congr (hold k hlt) fun k' hk' => hold k' ((h.key k b' hu).2 k' hk')
  · rcases hcase k b' hu with ⟨rfl, rfl⟩ | ⟨hlt, hu⟩
    · exact ⟨Nat.lt_succ_self _, fun k' hk' => Nat.lt_succ_of_lt (hk k' hk')⟩
    · exact ⟨Nat.lt_succ_of_lt hlt, fun k' hk' => Nat.lt_succ_of_lt ((h.key k b' hu).2 k' hk')⟩
  · have hl1 : b1.live = true := by cases b1 <;> first | rfl | cases ho
    rcases hcase k b1 h1 with ⟨rfl, rfl⟩ | ⟨hlt, h1'⟩
    · rcases hcase k' b2 h2 with ⟨rfl, rfl⟩ | ⟨hlt', h2⟩
      · exact absurd rfl hne
      · rw [setR_same] at e1
        rw [hold k' hlt'] at e2
        exact fun e => (hp p1 e1 hl1).2.1 ho k' b2 p2 h2 hl e2 e.symm
    · rcases hcase k' b2 h2 with ⟨rfl, rfl⟩ | ⟨hlt', h2⟩
      · rw [setR_same] at e2
        rw [hold k hlt] at e1
        exact (hp p2 e2 hl).2.2.1 k b1 p1 h1' ho e1
      · rw [hold k hlt] at e1
        rw [hold k' hlt'] at e2
        exact h.inj k k' b1 b2 p1 p2 h1' h2 ho hl hne e1 e2
  · rcases hcase k b' hu with ⟨rfl, rfl⟩ | ⟨hlt, hu⟩
    · rw [setR_same] at e; exact (hp q e hl).1 hal
    · rw [hold k hlt] at e; exact h.new k b' q hu hl hal hn e
  · rcases hcase k b' hu with ⟨rfl, rfl⟩ | ⟨hlt, hu⟩
    · have := h.n0; omega
    · exact h.old k b' hu ho hn
  · rw [hold k (Nat.lt_of_lt_of_le hk h.n0)]; exact h.ent k hk
  · rcases hcase k b' hu with ⟨rfl, rfl⟩ | ⟨hlt, hu⟩
    · exact hrd x hx
    · exact (h.rows k b' hu x hx).grown hg fun p' hp' h0 => hrowf k b' p'.1 hu (Blk.Far_rds hx h0 hp')
  · have hl1 : b1.live = true := by cases b1 <;> first | rfl | cases ho
    rcases hcase k b1 h1 with ⟨rfl, rfl⟩ | ⟨hlt, h1'⟩
    · rw [setR_same] at e1
      rcases hcase k' b2 h2 with ⟨rfl, rfl⟩ | ⟨hlt', h2⟩
      · exact ((hp p1 e1 hl1).2.2.2.2 ho).2 g hf
      · exact ((hp p1 e1 hl1).2.2.2.2 ho).1 k' b2 g h2 hf
    · rw [hold k hlt] at e1
      rcases hcase k' b2 h2 with ⟨rfl, rfl⟩ | ⟨hlt', h2⟩
      · exact hfar k b1 p1 g h1' ho e1 hf
      · exact h.far k k' b1 b2 p1 g h1' h2 ho e1 hf
  · rcases hcase k _ h1 with ⟨rfl, e1⟩ | ⟨hlt, h1'⟩
    · rcases hcase k' _ h2 with ⟨rfl, e2⟩ | ⟨hlt', h2⟩
      · exact absurd rfl hne
      · exact (htok t q l e1.symm).1 k' t' q' l' h2 r hr r' hr'
    · rcases hcase k' _ h2 with ⟨rfl, e2⟩ | ⟨hlt', h2⟩
      · exact fun p1 p2 c1 c2 e => (htok t' q' l' e2.symm).1 k t q l h1' r' hr' r hr p2 p1 c2 c1 e.symm
      · exact h.tt k k' t t' q q' l l' h1' h2 hne r hr r' hr'
  · rcases hcase k _ h1 with ⟨rfl, e1⟩ | ⟨hlt, h1'⟩
    · exact (htok t q l e1.symm).2.1 r hr p' hp'
    · exact h.tw k t q l h1' r hr p' hp'
  · rcases hcase k _ h1 with ⟨rfl, c1⟩ | ⟨hlt, h1'⟩
    · rcases hcase k' _ h2 with ⟨rfl, c2⟩ | ⟨hlt', h2⟩
      · rw [← c1] at c2; cases c2
      · rw [hold k' hlt'] at e1
        exact (htok t q l c1.symm).2.2 k' e p1 h2 hl e1 r hr p' hp'
    · rcases hcase k' _ h2 with ⟨rfl, c2⟩ | ⟨hlt', h2⟩
      · rw [setR_same] at e1
        have hlb : b.live = true := by rw [← c2]; simp only [Blk.live, Bool.not_eq_true']; exact nbeq_ne (by omega)
        exact (hp p1 e1 hlb).2.2.2.1 (by rw [← c2]; rfl) k t q l h1' r hr p' hp'
      · rw [hold k' hlt'] at e1
        exact h.tr k k' t q l e p1 h1' h2 hl e1 r hr p' hp'
theorem HInv.addNew (h : HInv E ρ H nx w) (hg : w.grownBy w' none) {t : TypeId} {cap : Nat} {e : Elts} (hrd : ∀ x ∈ e.rds, RowAt w' x.1 x.2) (hfar : ∀ k b' p' g, H k = some b' → b'.isOwn = true → ρ k = some p' → (Blk.own t cap e).Far g → p'.1 ≠ g) (hlt : ∀ g, (Blk.own t cap e).Far g → g < w.heap.size)
    (hb : BlkOK (setR ρ nx (some (w.heap.size, 0))) nx w' (.own t cap e)) (hk : ∀ k ∈ e.keys, k < nx) :
    HInv E (setR ρ nx (some (w.heap.size, 0))) (upd H nx (.own t cap e)) (nx + 1) w' :=
  h.add hg (fun _ e => by cases e) (fun _ _ _ _ _ _ e => by cases e) (fun _ _ _ _ _ e => by cases e) (fun q e hl => by
    cases e
    refine ⟨fun _ => .inl h.keeps.size, fun _ k b p' hk hl hp' => Nat.ne_of_lt ((h.blk k b hk).lt hl hp'), fun k b p' hk ho hp' => Nat.ne_of_lt ((h.blk k b hk).lt (by cases b <;> first | rfl | cases ho) hp'), fun _ k t q' l hk r hr p' hp' => ?_, fun _ => ⟨fun k b' g hk hg' => ?_, fun g hg' => ?_⟩⟩
    · exact Nat.ne_of_gt (h.far_lt hk ⟨r, hr, p', hp', rfl⟩)
    · exact Nat.ne_of_gt (h.far_lt hk hg')
    · exact Nat.ne_of_gt (hlt g hg')) hrd hfar (fun _ _ _ e => by cases e) hb hk
theorem HInv.addPlain (h : HInv E ρ H nx w) (hg : w.grownBy w' none) {t : TypeId} {cap : Nat} {e : Elts} (hr : e.rds = [])
    (hb : BlkOK (setR ρ nx (some (w.heap.size, 0))) nx w' (.own t cap e)) (hk : ∀ k ∈ e.keys, k < nx) :
    HInv E (setR ρ nx (some (w.heap.size, 0))) (upd H nx (.own t cap e)) (nx + 1) w' :=
  have hno : ∀ g, ¬ (Blk.own t cap e).Far g := fun g ⟨x, hx, _⟩ => by
    have : x ∈ e.rds := hx
    rw [hr] at this; cases this
  h.addNew hg (fun x hx => by rw [hr] at hx; cases hx) (fun _ _ _ g _ _ _ hf => (hno g hf).elim) (fun g hf => (hno g hf).elim) hb hk
theorem HInv.change (h : HInv E ρ H nx w) {k : Nat} {b b' : Blk} (hk : H k = some b) (hb : BlkOK ρ k w b') (hks : ∀ k' ∈ b'.keys, k' < nx) (hlive : b'.live = true → b.live = true) (hown : b'.isOwn = true → b.isOwn = true) (hal : b'.live = true → b'.isAl = false → b.isAl = false)
    (hro : ∀ e, b' = .ro e → 0 < e.len → ∃ e0, b = .ro e0 ∧ 0 < e0.len) (hrd : ∀ x ∈ b'.rds, RowAt w x.1 x.2) (hfar : ∀ k1 b1 p g, upd H k b' k1 = some b1 → b1.isOwn = true → ρ k1 = some p → b'.Far g → p.1 ≠ g)
    (htok : ∀ t q l, b' = .tok t q l → ∃ l0, b = .tok t q l0 ∧ ∀ r ∈ l, ∃ r0 ∈ l0, r0.a = r.a) : HInv E ρ (upd H k b') nx w := by
  have hcase : ∀ k1 b1, upd H k b' k1 = some b1 → (k1 = k ∧ b1 = b') ∨ (k1 ≠ k ∧ H k1 = some b1) := fun k1 b1 hu => by
    by_cases c : k1 = k
    · subst c; rw [upd_same] at hu; cases hu; exact .inl ⟨rfl, rfl⟩
    · rw [upd_ne c] at hu; exact .inr ⟨c, hu⟩
  have hkn := (h.key k b hk).1
  refine ⟨h.nil, fun k1 b1 hu => ?_, fun k1 b1 hu => ?_, fun k1 k2 b1 b2 p1 p2 h1 h2 ho hl hne e1 e2 => ?_, fun k1 b1 q hu hl ha hn e => ?_, fun k1 b1 hu ho hn => ?_, h.keeps, h.ent, h.n0, h.pos, fun k1 b1 hu x hx => ?_, fun k1 k2 b1 b2 p1 g h1 h2 ho e1 hf => ?_, fun k1 k2 t t' q q' l l' h1 h2 hne r hr r' hr' => ?_, fun k1 t q l h1 r hr p' hp' => ?_, fun k1 k2 t q l e p1 h1 h2 hl e1 r hr p' hp' => ?_⟩
  · rcases hcase k1 b1 hu with ⟨rfl, rfl⟩ | ⟨_, hu⟩
    · exact hb
    · exact h.blk k1 b1 hu
  · rcases hcase k1 b1 hu with ⟨rfl, rfl⟩ | ⟨_, hu⟩
    · exact ⟨hkn, hks⟩
    · exact h.key k1 b1 hu
  · rcases hcase k1 b1 h1 with ⟨rfl, rfl⟩ | ⟨c, h1'⟩
    · rcases hcase k2 b2 h2 with ⟨rfl, rfl⟩ | ⟨c2, h2⟩
      · exact absurd rfl hne
      · exact h.inj _ k2 b b2 p1 p2 hk h2 (hown ho) hl hne e1 e2
    · skip
      rcases hcase k2 b2 h2 with ⟨rfl, rfl⟩ | ⟨c2, h2'⟩
      · exact h.inj k1 _ b1 b p1 p2 h1' hk ho (hlive hl) hne e1 e2
      · exact h.inj k1 k2 b1 b2 p1 p2 h1' h2' ho hl hne e1 e2
  · rcases hcase k1 b1 hu with ⟨rfl, rfl⟩ | ⟨_, hu⟩
    · exact h.new _ b q hk (hlive hl) (hal hl ha) hn e
    · exact h.new k1 b1 q hu hl ha hn e
  · rcases hcase k1 b1 hu with ⟨rfl, rfl⟩ | ⟨_, hu⟩
    · exact h.old _ b hk (hown ho) hn
    · exact h.old k1 b1 hu ho hn
  · rcases hcase k1 b1 hu with ⟨rfl, rfl⟩ | ⟨_, hu⟩
    · exact hrd x hx
    · exact h.rows k1 b1 hu x hx
  · rcases hcase k2 b2 h2 with ⟨rfl, rfl⟩ | ⟨c2, h2'⟩
    · exact hfar k1 b1 p1 g h1 ho e1 hf
    · rcases hcase k1 b1 h1 with ⟨rfl, rfl⟩ | ⟨c, h1'⟩
      · exact h.far _ k2 b b2 p1 g hk h2' (hown ho) e1 hf
      · exact h.far k1 k2 b1 b2 p1 g h1' h2' ho e1 hf
  · rcases hcase k1 _ h1 with ⟨rfl, c1⟩ | ⟨c, h1'⟩
    · obtain ⟨l0, f1, f2⟩ := htok t q l c1.symm
      rcases hcase k2 _ h2 with ⟨rfl, c2⟩ | ⟨c2, h2'⟩
      · exact absurd rfl hne
      · obtain ⟨r0, hr0, e0⟩ := f2 r hr
        exact fun p p' hp hp' => h.tt _ k2 t t' q q' l0 l' (f1 ▸ hk) h2' hne r0 hr0 r' hr' p p' (by rw [e0]; exact hp) hp'
    · rcases hcase k2 _ h2 with ⟨rfl, c2⟩ | ⟨c2, h2'⟩
      · obtain ⟨l0, f1, f2⟩ := htok t' q' l' c2.symm
        obtain ⟨r0, hr0, e0⟩ := f2 r' hr'
        exact fun p p' hp hp' => h.tt k1 _ t t' q q' l l0 h1' (f1 ▸ hk) hne r hr r0 hr0 p p' hp (by rw [e0]; exact hp')
      · exact h.tt k1 k2 t t' q q' l l' h1' h2' hne r hr r' hr'
  · rcases hcase k1 _ h1 with ⟨rfl, c1⟩ | ⟨c, h1⟩
    · obtain ⟨l0, f1, f2⟩ := htok t q l c1.symm
      obtain ⟨r0, hr0, e0⟩ := f2 r hr
      exact h.tw _ t q l0 (f1 ▸ hk) r0 hr0 p' (by rw [e0]; exact hp')
    · exact h.tw k1 t q l h1 r hr p' hp'
  · rcases hcase k2 _ h2 with ⟨rfl, c2⟩ | ⟨c2, h2'⟩
    · obtain ⟨e0, f1, f2⟩ := hro e c2.symm hl
      rcases hcase k1 _ h1 with ⟨rfl, c1⟩ | ⟨c, h1'⟩
      · rw [← c1] at c2; cases c2
      · exact h.tr k1 _ t q l e0 p1 h1' (f1 ▸ hk) f2 e1 r hr p' hp'
    · rcases hcase k1 _ h1 with ⟨rfl, c1⟩ | ⟨c, h1'⟩
      · obtain ⟨l0, f1, f2⟩ := htok t q l c1.symm
        obtain ⟨r0, hr0, e0⟩ := f2 r hr
        exact h.tr _ k2 t q l0 e p1 (f1 ▸ hk) h2' hl e1 r0 hr0 p' (by rw [e0]; exact hp')
      · exact h.tr k1 k2 t q l e p1 h1' h2' hl e1 r hr p' hp'
theorem HInv.grow (h : HInv E ρ H nx w) {row : Option Nat} (hg : w.grownBy w' row) (hwr : ∀ g, row = some g → Wr E g)
    (hrow : ∀ k b p, H k = some b → b.live = true → ρ k = some p → some p.1 ≠ row) (hrowf : ∀ k b g, H k = some b → b.Far g → some g ≠ row) : HInv E ρ H nx w' :=
  ⟨h.nil, fun k b hu => (h.blk k b hu).grown hg (fun hl q hq => hrow k b q hu hl hq) fun g hg' => hrowf k b g hu hg', h.key, h.inj, h.new, h.old, h.keeps.grown hg hwr, h.ent, h.n0, h.pos,
    fun k b hu x hx => (h.rows k b hu x hx).grown hg fun p' hp' h0 => hrowf k b p'.1 hu (Blk.Far_rds hx h0 hp'), h.far, h.tt, h.tw, h.tr⟩
theorem HInv.kill (h : HInv E ρ H nx w) {k : Nat} (hk : k < nx) : HInv E ρ (upd H k .dead) nx w := by
  have hcase : ∀ k1 b', upd H k .dead k1 = some b' → b' = .dead ∨ H k1 = some b' := fun k1 b' hu => by
    by_cases c : k1 = k
    · subst c; rw [upd_same] at hu; cases hu; exact .inl rfl
    · rw [upd_ne c] at hu; exact .inr hu
  refine ⟨h.nil, fun k1 b' hu => ?_, fun k1 b' hu => ?_, fun k1 k2 b1 b2 p1 p2 h1 h2 ho hl hne e1 e2 => ?_, fun k1 b' q hu hl ha hn e => ?_, fun k1 b' hu ho hn => ?_, h.keeps, h.ent, h.n0, h.pos, fun k1 b' hu x hx => ?_, fun k1 k2 b1 b2 p1 g h1 h2 ho e1 hf => ?_, fun k1 k2 t t' q q' l l' h1 h2 hne r hr r' hr' => ?_, fun k1 t q l h1 r hr p' hp' => ?_, fun k1 k2 t q l e p1 h1 h2 hl e1 r hr p' hp' => ?_⟩
  · rcases hcase k1 b' hu with rfl | hu
    · trivial
    · exact h.blk k1 b' hu
  · by_cases c : k1 = k
    · subst c; rw [upd_same] at hu; cases hu; exact ⟨hk, fun _ h => by cases h⟩
    · rw [upd_ne c] at hu; exact h.key k1 b' hu
  · rcases hcase k1 b1 h1 with rfl | h1
    · cases ho
    · rcases hcase k2 b2 h2 with rfl | h2
      · cases hl
      · exact h.inj k1 k2 b1 b2 p1 p2 h1 h2 ho hl hne e1 e2
  · rcases hcase k1 b' hu with rfl | hu
    · cases hl
    · exact h.new k1 b' q hu hl ha hn e
  · rcases hcase k1 b' hu with rfl | hu
    · cases ho
    · exact h.old k1 b' hu ho hn
  · rcases hcase k1 b' hu with rfl | hu
    · cases hx
    · exact h.rows k1 b' hu x hx
  · rcases hcase k1 b1 h1 with rfl | h1
    · cases ho
    · rcases hcase k2 b2 h2 with rfl | h2
      · obtain ⟨x, hx, _⟩ := hf; cases hx
      · exact h.far k1 k2 b1 b2 p1 g h1 h2 ho e1 hf
  · rcases hcase k1 _ h1 with c | h1
    · cases c
    · rcases hcase k2 _ h2 with c | h2
      · cases c
      · exact h.tt k1 k2 t t' q q' l l' h1 h2 hne r hr r' hr'
  · rcases hcase k1 _ h1 with c | h1
    · cases c
    · exact h.tw k1 t q l h1 r hr p' hp'
  · rcases hcase k1 _ h1 with c | h1
    · cases c
    · rcases hcase k2 _ h2 with c | h2
      · cases c
      · exact h.tr k1 k2 t q l e p1 h1 h2 hl e1 r hr p' hp'
theorem HInv.over (h : HInv E ρ H nx w) {k : Nat} {t : TypeId} {cap : Nat} {e e' : Elts} {p : Nat × Nat} (hk : H k = some (.own t cap e)) (hp : ρ k = some p) (hg : w.grownBy w' (some p.1))
    (hb : BlkOK ρ k w' (.own t cap e')) (hks : ∀ k' ∈ e'.keys, k' < nx) (hrd : ∀ x ∈ e'.rds, RowAt w x.1 x.2) (hfar : ∀ k1 b1 p g, H k1 = some b1 → b1.isOwn = true → ρ k1 = some p → (Blk.own t cap e').Far g → p.1 ≠ g) :
    HInv E ρ (upd H k (.own t cap e')) nx w' := by
  have hcase : ∀ k1 b', upd H k (.own t cap e') k1 = some b' → (k1 = k ∧ b' = .own t cap e') ∨ (k1 ≠ k ∧ H k1 = some b') := fun k1 b' hu => by
    by_cases c : k1 = k
    · subst c; rw [upd_same] at hu; cases hu; exact .inl ⟨rfl, rfl⟩
    · rw [upd_ne c] at hu; exact .inr ⟨c, hu⟩
  have hown : ∀ k1 b1, upd H k (.own t cap e') k1 = some b1 → b1.isOwn = true → ∃ b0, H k1 = some b0 ∧ b0.isOwn = true := fun k1 b1 hu ho => by
    rcases hcase k1 b1 hu with ⟨rfl, rfl⟩ | ⟨_, hu⟩
    · exact ⟨_, hk, rfl⟩
    · exact ⟨b1, hu, ho⟩
  refine ⟨h.nil, fun k1 b' hu => ?_, fun k1 b' hu => ?_, fun k1 k2 b1 b2 p1 p2 h1 h2 ho hl hne e1 e2 => ?_, fun k1 b' q hu hl ha hn e => ?_, fun k1 b' hu ho hn => ?_, h.keeps.grown hg (fun g e => by cases e; exact h.wr hk rfl hp), h.ent, h.n0, h.pos, fun k1 b' hu x hx => ?_, fun k1 k2 b1 b2 p1 g h1 h2 ho e1 hf => ?_, fun k1 k2 t t' q q' l l' h1 h2 hne r hr r' hr' => ?_, fun k1 t q l h1 r hr p' hp' => ?_, fun k1 k2 t q l e p1 h1 h2 hl e1 r hr p' hp' => ?_⟩
  · rcases hcase k1 b' hu with ⟨rfl, rfl⟩ | ⟨c, hu⟩
    · exact hb
    · exact (h.blk k1 b' hu).grown hg (fun hl q hq e => h.inj k k1 _ b' p q hk hu rfl hl (Ne.symm c) hp hq (by injection e with e; exact e.symm)) fun g hg' e => h.far k k1 _ b' p g hk hu rfl hp hg' (by injection e with e; exact e.symm)
  · rcases hcase k1 b' hu with ⟨rfl, rfl⟩ | ⟨c, hu⟩
    · exact ⟨(h.key _ _ hk).1, hks⟩
    · exact h.key k1 b' hu
  · rcases hcase k1 b1 h1 with ⟨rfl, rfl⟩ | ⟨c, h1'⟩
    · rcases hcase k2 b2 h2 with ⟨rfl, rfl⟩ | ⟨c2, h2'⟩
      · exact absurd rfl hne
      · exact h.inj k1 k2 _ b2 p1 p2 hk h2' rfl hl hne e1 e2
    · rcases hcase k2 b2 h2 with ⟨rfl, rfl⟩ | ⟨c2, h2'⟩
      · exact h.inj k1 k2 b1 _ p1 p2 h1' hk ho rfl hne e1 e2
      · exact h.inj k1 k2 b1 b2 p1 p2 h1' h2' ho hl hne e1 e2
  · rcases hcase k1 b' hu with ⟨rfl, rfl⟩ | ⟨c, hu⟩
    · exact h.new k1 _ q hk Zz Zz hn e
    · exact h.new k1 b' q hu hl ha hn e
  · rcases hcase k1 b' hu with ⟨rfl, rfl⟩ | ⟨c, hu⟩
    · exact h.old k1 _ hk rfl hn
    · exact h.old k1 b' hu ho hn
  · rcases hcase k1 b' hu with ⟨rfl, rfl⟩ | ⟨c, hu⟩
    · exact (hrd x hx).grown hg fun p' hp' h0 e => hfar _ _ p p'.1 hk rfl hp (Blk.Far_rds (b := .own t cap e') hx h0 hp') (by injection e with e; exact e.symm)
    · exact (h.rows k1 b' hu x hx).grown hg fun p' hp' h0 e => h.far k k1 _ b' p p'.1 hk hu rfl hp (Blk.Far_rds hx h0 hp') (by injection e with e; exact e.symm)
  · obtain ⟨b0, f1, f2⟩ := hown k1 b1 h1 ho
    rcases hcase k2 b2 h2 with ⟨rfl, rfl⟩ | ⟨c2, h2⟩
    · exact hfar k1 b0 p1 g f1 f2 e1 hf
    · exact h.far k1 k2 b0 b2 p1 g f1 h2 f2 e1 hf
  · rcases hcase k1 _ h1 with ⟨_, c⟩ | ⟨_, h1⟩
    · cases c
    · rcases hcase k2 _ h2 with ⟨_, c⟩ | ⟨_, h2⟩
      · cases c
      · exact h.tt k1 k2 t t' q q' l l' h1 h2 hne r hr r' hr'
  · rcases hcase k1 _ h1 with ⟨_, c⟩ | ⟨_, h1⟩
    · cases c
    · exact h.tw k1 t q l h1 r hr p' hp'
  · rcases hcase k1 _ h1 with ⟨_, c⟩ | ⟨_, h1⟩
    · cases c
    · rcases hcase k2 _ h2 with ⟨_, c⟩ | ⟨_, h2⟩
      · cases c
      · exact h.tr k1 k2 t q l e p1 h1 h2 hl e1 r hr p' hp'
theorem HInv.drew (h : HInv E ρ H nx w) : HInv E ρ H nx { w with drawn := w.drawn + 1 } :=
  h.grow (row := none) ⟨rfl, rfl, rfl, Nat.le_refl _, fun _ _ _ => rfl⟩ (fun _ e => by cases e) (fun _ _ _ _ _ _ e => by cases e) (fun _ _ _ _ _ e => by cases e)
end
end Go.Proofs.YtekpamojojfplaaGreat
