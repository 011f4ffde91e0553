/-
  TEXTS OF THE PROOF, put together: Am9, Am10, Am11.
-/
import Derived.Test.YtekpamojojfplaaGreatB06
set_option linter.unusedVariables false
set_option linter.unusedSimpArgs false
namespace Go.Proofs.YtekpamojojfplaaGreat
open Go.RowKit
def Ghost (E : Env) (H : Nat → Option Blk) (nx : Nat) (G : (Nat → Option Blk) → Nat → Prop) : Prop := ∀ ρ w, HInv E ρ H nx w → ∃ H' nx' ρ', G H' nx' ∧ HInv E ρ' H' nx' w ∧ (∀ k, k < nx → ρ' k = ρ k) ∧ nx ≤ nx'
section
variable {P : Program} {tab : List (Nat × TD)} {E : Env} {N : Nat} {Q : Post} {fr : Nat → Option AV} {H : Nat → Option Blk} {nx : Nat} {G : (Nat → Option Blk) → Nat → Prop}
variable {l0 rest : List Oper} {ρs : Rho} {nxs : Nat} {hs : List (Nat × Blk)} {fuel : Nat} {listed : Array Bool} {code : Code}
theorem awp_ghost (hg : Ghost E H nx G) (h : ∀ H' nx', G H' nx' → awp P E N code Q ⟨fr, H', nx'⟩) : awp P E N code Q ⟨fr, H, nx⟩ := by
  unfold awp at *
  intro ρ a w hI
  obtain ⟨H', nx', ρ', h1, h2, h3, h4⟩ := hg ρ w hI.h
  exact h H' nx' h1 ρ' a w ⟨hI.f.mono h3 h4, h2⟩
theorem awpL_ghost (hg : Ghost E H nx G) (h : ∀ H' nx', G H' nx' → awpL P E N l0 Q rest ⟨fr, H', nx'⟩) : awpL P E N l0 Q rest ⟨fr, H, nx⟩ := by
  unfold awpL at *
  intro ρ a w hI
  obtain ⟨H', nx', ρ', h1, h2, h3, h4⟩ := hg ρ w hI.h
  exact h H' nx' h1 ρ' a w ⟨hI.f.mono h3 h4, h2⟩
theorem awpH_ghost (hg : Ghost E H nx G) (h : ∀ H' nx', G H' nx' → awpH P E N l0 Q ρs nxs hs fuel listed ⟨fr, H', nx'⟩) : awpH P E N l0 Q ρs nxs hs fuel listed ⟨fr, H, nx⟩ := by
  unfold awpH at *
  intro ρ a w hh
  obtain ⟨H', nx', ρ', h1, h2, h3, h4⟩ := hg ρ w hh.inv.h
  exact h H' nx' h1 ρ' a w ⟨⟨hh.inv.f.mono h3 h4, h2⟩, fun k hk => (h3 k (Nat.lt_of_lt_of_le hk hh.le)).trans (hh.agree k hk), hh.held, Nat.le_trans hh.le h4⟩
theorem awpHop_ghost {i : Nat} (hg : Ghost E H nx G) (h : ∀ H' nx', G H' nx' → awpHop P E N l0 Q ρs nxs hs fuel listed i ⟨fr, H', nx'⟩) : awpHop P E N l0 Q ρs nxs hs fuel listed i ⟨fr, H, nx⟩ := by
  unfold awpHop at *
  intro ρ a w hh
  obtain ⟨H', nx', ρ', h1, h2, h3, h4⟩ := hg ρ w hh.inv.h
  exact h H' nx' h1 ρ' a w ⟨⟨hh.inv.f.mono h3 h4, h2⟩, fun k hk => (h3 k (Nat.lt_of_lt_of_le hk hh.le)).trans (hh.agree k hk), hh.held, Nat.le_trans hh.le h4⟩
end
section
variable {E : Env} {ρ : Rho} {H : Nat → Option Blk} {nx : Nat} {w : World}
theorem Blk.elts_rds {b : Blk} {e : Elts} (h : b.elts = some e) : b.rds = e.rds := by cases b <;> cases h <;> rfl
theorem Blk.elts_Far {b : Blk} {e : Elts} {a : Option (Nat × Nat)} (h : b.elts = some e) {g : Nat} (hg : (Blk.al a e).Far g) : b.Far g := by
  obtain ⟨x, hx, h0, p, hp, rfl⟩ := hg
  exact Blk.Far_rds (by rw [Blk.elts_rds h]; exact hx) h0 hp
theorem Blk.elts_keys {b : Blk} {e : Elts} (h : b.elts = some e) : b.keys = e.keys := by cases b <;> cases h <;> rfl
theorem HInv.reveal (h : HInv E ρ H nx w) {k : Nat} {e : Elts} (he : eltsAt H k = some e) : HInv E ρ (upd H k (.al (ρ k) e)) nx w := by
  unfold eltsAt at he
  split at he
  · rename_i b hb
    refine h.change hb ⟨rfl, (h.blk k b hb).asRo he⟩ (fun k' hk' => (h.key k b hb).2 k' (by rw [Blk.elts_keys he]; exact hk')) (fun hl => ?_) (fun e => nomatch e) (fun _ e => nomatch e) (fun _ e => nomatch e) (fun x hx => h.rows k b hb x (by rw [Blk.elts_rds he]; exact hx)) (fun k1 b1 p g h1 ho e1 hf => ?_) (fun _ _ _ e => nomatch e)
    · cases b with
      | dead => cases he
      | ro e' => cases he; exact hl
      | own t c e' => rfl
      | al a e' => cases he; exact hl
      | tok t q l => cases he
    · by_cases c : k1 = k
      · subst c; rw [upd_same] at h1; cases h1; cases ho
      · rw [upd_ne c] at h1
        exact h.far k1 k b1 b p g h1 hb ho e1 (Blk.elts_Far he hf)
  · cases he
theorem Ghost.reveal (k : Nat) {e : Elts} (he : eltsAt H k = some e) : Ghost E H nx fun H' nx' => ∃ a, H' = upd H k (.al a e) ∧ nx' = nx := fun ρ _ h => ⟨_, nx, ρ, ⟨ρ k, rfl, rfl⟩, h.reveal he, fun _ _ => rfl, Nat.le_refl _⟩
theorem HInv.newTok (h : HInv E ρ H nx w) (t : TypeId) (q : Bool) : HInv E (setR ρ nx none) (upd H nx (.tok t q [])) (nx + 1) w :=
  h.add (row := none) (p := none) ⟨rfl, rfl, rfl, Nat.le_refl _, fun _ _ _ => rfl⟩ (fun _ e => by cases e) (fun _ _ _ _ _ _ e => by cases e) (fun _ _ _ _ _ e => by cases e) (fun q e => by cases e) (fun x hx => by cases hx)
    (fun _ _ _ _ _ _ _ hF => by obtain ⟨r, hr, _⟩ := hF; cases hr) (fun _ _ _ e => by cases e; exact ⟨(fun _ _ _ _ _ r hr => nomatch hr), (fun r hr => nomatch hr), (fun _ _ _ _ _ _ r hr => nomatch hr)⟩) ⟨setR_same, fun r hr => (by cases hr), .nil⟩ (fun _ hk => by cases hk)
theorem Ghost.newTok (t : TypeId) (q : Bool) : Ghost E H nx fun H' nx' => H' = upd H nx (.tok t q []) ∧ nx' = nx + 1 := fun ρ _ h => ⟨_, _, _, ⟨rfl, rfl⟩, h.newTok t q, fun k hk => setR_ne (Nat.ne_of_lt hk), Nat.le_succ _⟩
theorem HInv.part (h : HInv E ρ H nx w) {k : Nat} {t : TypeId} {q : Bool} {l l' : List Row} (hk : H k = some (.tok t q l)) (hs : ∀ r ∈ l', r ∈ l) (hp : l.Pairwise Apart → l'.Pairwise Apart) : HInv E ρ (upd H k (.tok t q l')) nx w := by
  have hb := h.blk k _ hk
  simp only [BlkOK] at hb
  refine h.change hk ⟨hb.1, fun r hr => hb.2.1 r (hs r hr), hp hb.2.2⟩ (fun _ hk => by cases hk) (fun _ => rfl) (fun _ => rfl) (fun _ _ => rfl) (fun _ e => nomatch e) (fun x hx => by cases hx) (fun k1 b1 p g h1 ho e1 hf => ?_) (fun _ _ _ e => by cases e; exact ⟨l, rfl, fun r hr => ⟨r, hs r hr, rfl⟩⟩)
  obtain ⟨r, hr, p', hp', rfl⟩ := hf
  by_cases c : k1 = k
  · subst c; rw [upd_same] at h1; cases h1
    rw [hb.1] at e1; cases e1
  · rw [upd_ne c] at h1
    exact h.far k1 k b1 _ p p'.1 h1 hk ho e1 ⟨r, hs r hr, p', hp', rfl⟩
theorem Ghost.part (k : Nat) {t : TypeId} {q : Bool} {l l' : List Row} (hk : H k = some (.tok t q l)) (hs : ∀ r ∈ l', r ∈ l) (hp : l.Pairwise Apart → l'.Pairwise Apart) : Ghost E H nx fun H' nx' => H' = upd H k (.tok t q l') ∧ nx' = nx := fun ρ _ h => ⟨_, nx, ρ, ⟨rfl, rfl⟩, h.part hk hs hp, fun _ _ => rfl, Nat.le_refl _⟩
theorem HInv.partN (h : HInv E ρ H nx w) {k : Nat} {t : TypeId} {l l' : List Row} (hk : H k = some (.tok t false l)) (hs : ∀ r ∈ l', ∃ r0 ∈ l, r0.a = r.a ∧ r0.cap = r.cap ∧ r0.xs = r.xs) (hp : l.Pairwise Apart → l'.Pairwise Apart) : HInv E ρ (upd H k (.tok t false l')) nx w := by
  have hb := h.blk k _ hk
  simp only [BlkOK] at hb
  refine h.change hk ⟨hb.1, fun r hr => ?_, hp hb.2.2⟩ (fun _ hk => by cases hk) (fun _ => rfl) (fun _ => rfl) (fun _ _ => rfl) (fun _ e => nomatch e) (fun x hx => by cases hx) (fun k1 b1 p g h1 ho e1 hf => ?_) (fun _ _ _ e => by cases e; exact ⟨l, rfl, fun r hr => by obtain ⟨r0, h0, e0, _⟩ := hs r hr; exact ⟨r0, h0, e0⟩⟩)
  · obtain ⟨r0, h0, e1, e2, e3⟩ := hs r hr
    have := hb.2.1 r0 h0
    unfold RowOwn Row.val Row.len Row.svs at this ⊢
    simp only [e1, e2, e3] at this
    exact this
  · obtain ⟨r, hr, p', hp', rfl⟩ := hf
    obtain ⟨r0, h0, e0, _⟩ := hs r hr
    by_cases c : k1 = k
    · subst c; rw [upd_same] at h1; cases h1
      rw [hb.1] at e1; cases e1
    · rw [upd_ne c] at h1
      exact h.far k1 k b1 _ p p'.1 h1 hk ho e1 ⟨r0, h0, p', by rw [e0]; exact hp', rfl⟩
theorem Ghost.partN (k : Nat) {t : TypeId} {l : List Row} (l' : List Row) (hk : H k = some (.tok t false l)) (hs : ∀ r ∈ l', ∃ r0 ∈ l, r0.a = r.a ∧ r0.cap = r.cap ∧ r0.xs = r.xs) (hp : l.Pairwise Apart → l'.Pairwise Apart) : Ghost E H nx fun H' nx' => H' = upd H k (.tok t false l') ∧ nx' = nx := fun ρ _ h => ⟨_, nx, ρ, ⟨rfl, rfl⟩, h.partN hk hs hp, fun _ _ => rfl, Nat.le_refl _⟩
theorem Apart.symm {r s : Row} (h : Apart r s) : Apart s r := fun p p' hp hp' e => h p' p hp' hp e.symm
theorem HInv.forget (h : HInv E ρ H nx w) {k : Nat} {b : Blk} (hk : H k = some b) (ha : b.isAl = false) : HInv E ρ (upd H k b.forget) nx w := by
  refine h.change hk (h.blk k b hk).forget (fun k' hk' => (h.key k b hk).2 k' (Blk.forget_keys b k' hk')) (Blk.forget_live b) (fun ho => by rw [Blk.forget_own] at ho; exact ho) (fun _ _ => ha) (fun e he hl => ?_) (fun x hx => by rw [Blk.forget_rds] at hx; cases hx) (fun k1 b1 p g h1 ho e1 hf => ?_) (fun t q l e => ⟨l, forget_tok e, fun r h => ⟨r, h, rfl⟩⟩)
  · obtain ⟨e0, h1, h2⟩ := forget_ro he
    exact ⟨e0, h1, by omega⟩
  · obtain ⟨t, q, l, rfl⟩ := Blk.forget_Far hf
    have hb := h.blk k _ hk
    simp only [BlkOK] at hb
    by_cases c : k1 = k
    · subst c; rw [upd_same] at h1; cases h1
      rw [hb.1] at e1; cases e1
    · rw [upd_ne c] at h1
      exact h.far k1 k b1 _ p g h1 hk ho e1 hf
theorem Ghost.forget (k : Nat) {b : Blk} (hk : H k = some b) (ha : b.isAl = false) : Ghost E H nx fun H' nx' => H' = upd H k b.forget ∧ nx' = nx := fun ρ _ h => ⟨_, nx, ρ, ⟨rfl, rfl⟩, h.forget hk ha, fun _ _ => rfl, Nat.le_refl _⟩
theorem HInv.tell (h : HInv E ρ H nx w) {k kt : Nat} {t tt : TypeId} {c : Nat} {q : Bool} {e e' : Elts} {l : List Row} (hk : H k = some (.own t c e)) (hkt : H kt = some (.tok tt q l)) (he : e.forget = e'.forget) (hs : ∀ x ∈ e'.rds, x.1 = q ∧ x.2 ∈ l) : HInv E ρ (upd H k (.own t c e')) nx w := by
  have e1 : e'.all = e.all := by rw [← Elts.forget_all, ← he, Elts.forget_all]
  have e2 : e'.len = e.len := by rw [← Elts.forget_len, ← he, Elts.forget_len]
  have e3 : e'.sz = e.sz := by rw [← Elts.forget_sz, ← he, Elts.forget_sz]
  have hb := h.blk k _ hk
  have hbt := h.blk kt _ hkt
  simp only [BlkOK] at hb hbt
  refine h.change hk ?_ (fun k' hk' => (h.key k _ hk).2 k' ?_) (fun _ => rfl) (fun _ => rfl) (fun _ _ => rfl) (fun _ e => nomatch e) (fun x hx => ?_) (fun k1 b1 p g h1 ho e1 hf => ?_) (fun _ _ _ e => nomatch e)
  · simp only [BlkOK, e1, e2, e3]; exact hb
  · have : k' ∈ keysOf e'.all := hk'
    rw [e1] at this; exact this
  · obtain ⟨f1, f2⟩ := hs x hx
    rw [f1]
    exact (hbt.2.1 x.2 f2).at_
  · obtain ⟨x, hx, h0, p', hp', rfl⟩ := hf
    obtain ⟨f1, f2⟩ := hs x hx
    have hF : (Blk.tok tt q l).Far p'.1 := ⟨x.2, f2, p', hp', rfl⟩
    by_cases c : k1 = k
    · subst c; rw [upd_same] at h1; cases h1
      exact h.far k1 kt _ _ p p'.1 hk hkt rfl e1 hF
    · rw [upd_ne c] at h1
      exact h.far k1 kt b1 _ p p'.1 h1 hkt ho e1 hF
theorem Ghost.tell (k kt : Nat) (e' : Elts) {t tt : TypeId} {c : Nat} {q : Bool} {e : Elts} {l : List Row} (hk : H k = some (.own t c e)) (hkt : H kt = some (.tok tt q l)) (he : e.forget = e'.forget) (hs : ∀ x ∈ e'.rds, x.1 = q ∧ x.2 ∈ l) : Ghost E H nx fun H' nx' => H' = upd H k (.own t c e') ∧ nx' = nx := fun ρ _ h => ⟨_, nx, ρ, ⟨rfl, rfl⟩, h.tell hk hkt he hs, fun _ _ => rfl, Nat.le_refl _⟩
theorem HInv.freeze (h : HInv E ρ H nx w) {k kt : Nat} {t : TypeId} {c : Nat} {q : Bool} {r : Row} {l : List Row} (hk : H k = some (.own t c (r.elts q))) (hkt : H kt = some (.tok t q l)) (hc : r.cap = c) (ha : r.a = ρ k) :
    HInv E ρ (upd (upd H k (.al (ρ k) (r.elts q))) kt (.tok t q (l ++ [r]))) nx w := by
  have hne : k ≠ kt := fun e => by subst e; rw [hk] at hkt; cases hkt
  have hb := h.blk k _ hk
  have hbt := h.blk kt _ hkt
  have hown : RowOwn w t q r := by
    simp only [BlkOK, Row.elts_all, Row.elts_len, Row.elts_sz] at hb
    have e1 : (Value.slice (adr ρ k 0) (r.len q) c) = r.val q := by
      simp only [Row.val, adr, ha, hc]; rfl
    have e2 : cells ρ (r.svs q) = cells noRho (r.svs q) := List.map_congr_left fun s hs => noKeys_conc (Row.svs_keys q r s hs) ρ noRho
    rw [e1, e2] at hb
    exact hb
  simp only [BlkOK] at hbt
  have hfr : ∀ k1 t1 q1 l1, H k1 = some (.tok t1 q1 l1) → ∀ r1 ∈ l1, Apart r1 r := fun k1 t1 q1 l1 h1 r1 hr1 p p' hp hp' e =>
    h.far k k1 _ _ p' p.1 hk h1 rfl (by rw [← ha]; exact hp') ⟨r1, hr1, p, hp, rfl⟩ e.symm
  have h1 := h.reveal (k := k) (e := r.elts q) (by unfold eltsAt; rw [hk]; rfl)
  have hkt1 : upd H k (.al (ρ k) (r.elts q)) kt = some (.tok t q l) := by rw [upd_ne (Ne.symm hne)]; exact hkt
  have hcase : ∀ k1 b1, upd (upd H k (.al (ρ k) (r.elts q))) kt (.tok t q (l ++ [r])) k1 = some b1 → (k1 = kt ∧ b1 = .tok t q (l ++ [r])) ∨ (k1 ≠ kt ∧ k1 = k ∧ b1 = .al (ρ k) (r.elts q)) ∨ (k1 ≠ kt ∧ k1 ≠ k ∧ H k1 = some b1) := fun k1 b1 hu => by
    by_cases c : k1 = kt
    · subst c; rw [upd_same] at hu; cases hu; exact .inl ⟨rfl, rfl⟩
    · rw [upd_ne c] at hu
      by_cases c2 : k1 = k
      · subst c2; rw [upd_same] at hu; cases hu; exact .inr (.inl ⟨c, rfl, rfl⟩)
      · rw [upd_ne c2] at hu; exact .inr (.inr ⟨c, c2, hu⟩)
  have hold : ∀ k1 b1, upd (upd H k (.al (ρ k) (r.elts q))) kt (.tok t q (l ++ [r])) k1 = some b1 → k1 ≠ kt → upd H k (.al (ρ k) (r.elts q)) k1 = some b1 := fun k1 b1 hu hn => by rw [upd_ne hn] at hu; exact hu
  refine ⟨h.nil, fun k1 b1 hu => ?_, fun k1 b1 hu => ?_, fun k1 k2 b1 b2 p1 p2 g1 g2 ho hl hn e1 e2 => ?_, fun k1 b1 p hu hl hal hn e => ?_, fun k1 b1 hu ho hn => ?_, h.keeps, h.ent, h.n0, h.pos, fun k1 b1 hu x hx => ?_, fun k1 k2 b1 b2 p g g1 g2 ho e1 hf => ?_, fun k1 k2 t1 t2 q1 q2 l1 l2 g1 g2 hn r1 hr1 r2 hr2 => ?_, fun k1 t1 q1 l1 g1 r1 hr1 p hp => ?_, fun k1 k2 t1 q1 l1 e p g1 g2 hl e1 r1 hr1 p' hp' => ?_⟩
  · by_cases c : k1 = kt
    · subst c; rw [upd_same] at hu; cases hu
      refine ⟨hbt.1, fun r1 hr1 => ?_, List.pairwise_append.2 ⟨hbt.2.2, by simp, fun r1 hr1 r2 hr2 => ?_⟩⟩
      · rcases List.mem_append.1 hr1 with hr1 | hr1
        · exact hbt.2.1 r1 hr1
        · rw [List.mem_singleton.1 hr1]; exact hown
      · rw [List.mem_singleton.1 hr2]; exact hfr _ _ _ _ hkt r1 hr1
    · exact h1.blk k1 b1 (hold k1 b1 hu c)
  · by_cases c : k1 = kt
    · subst c; rw [upd_same] at hu; cases hu
      exact ⟨(h.key _ _ hkt).1, fun _ hk => by cases hk⟩
    · exact h1.key k1 b1 (hold k1 b1 hu c)
  · have c1 : k1 ≠ kt := fun e => by subst e; rw [hbt.1] at e1; cases e1
    have c2 : k2 ≠ kt := fun e => by subst e; rw [hbt.1] at e2; cases e2
    exact h1.inj k1 k2 b1 b2 p1 p2 (hold k1 b1 g1 c1) (hold k2 b2 g2 c2) ho hl hn e1 e2
  · have c1 : k1 ≠ kt := fun e' => by subst e'; rw [hbt.1] at e; cases e
    exact h1.new k1 b1 p (hold k1 b1 hu c1) hl hal hn e
  · by_cases c : k1 = kt
    · subst c; exact h.old _ _ hkt rfl hn
    · exact h1.old k1 b1 (hold k1 b1 hu c) ho hn
  · by_cases c : k1 = kt
    · subst c; rw [upd_same] at hu; cases hu; cases hx
    · exact h1.rows k1 b1 (hold k1 b1 hu c) x hx
  · have c1 : k1 ≠ kt := fun e => by subst e; rw [hbt.1] at e1; cases e1
    have g1' := hold k1 b1 g1 c1
    by_cases c2 : k2 = kt
    · subst c2; rw [upd_same] at g2; cases g2
      obtain ⟨r1, hr1, p', hp', rfl⟩ := hf
      rcases List.mem_append.1 hr1 with hr1 | hr1
      · exact h1.far k1 _ b1 _ p p'.1 g1' hkt1 ho e1 ⟨r1, hr1, p', hp', rfl⟩
      · rw [List.mem_singleton.1 hr1] at hp'
        have c3 : k1 ≠ k := fun e => by subst e; rw [upd_same] at g1'; cases g1'; cases ho
        rw [upd_ne c3] at g1'
        exact h.inj k1 k b1 _ p p' g1' hk ho rfl c3 e1 (by rw [← ha]; exact hp')
    · exact h1.far k1 k2 b1 b2 p g g1' (hold k2 b2 g2 c2) ho e1 hf
  · have key : ∀ k1 t1 q1 l1, k1 ≠ kt → upd (upd H k (.al (ρ k) (r.elts q))) kt (.tok t q (l ++ [r])) k1 = some (.tok t1 q1 l1) → H k1 = some (.tok t1 q1 l1) := fun k1 t1 q1 l1 c g1 => by
      rcases hcase k1 _ g1 with ⟨e, _⟩ | ⟨_, _, e⟩ | ⟨_, _, e⟩
      · exact absurd e c
      · cases e
      · exact e
    by_cases c1 : k1 = kt
    · subst c1; rw [upd_same] at g1; cases g1
      have g2' := key k2 t2 q2 l2 (Ne.symm hn) g2
      rcases List.mem_append.1 hr1 with hr1 | hr1
      · exact h.tt _ k2 t t2 q q2 l l2 hkt g2' hn r1 hr1 r2 hr2
      · rw [List.mem_singleton.1 hr1]; exact (hfr k2 t2 q2 l2 g2' r2 hr2).symm
    · have g1' := key k1 t1 q1 l1 c1 g1
      by_cases c2 : k2 = kt
      · subst c2; rw [upd_same] at g2; cases g2
        rcases List.mem_append.1 hr2 with hr2 | hr2
        · exact h.tt k1 _ t1 t q1 q l1 l g1' hkt hn r1 hr1 r2 hr2
        · rw [List.mem_singleton.1 hr2]; exact hfr k1 t1 q1 l1 g1' r1 hr1
      · exact h.tt k1 k2 t1 t2 q1 q2 l1 l2 g1' (key k2 t2 q2 l2 c2 g2) hn r1 hr1 r2 hr2
  · by_cases c1 : k1 = kt
    · subst c1; rw [upd_same] at g1; cases g1
      rcases List.mem_append.1 hr1 with hr1 | hr1
      · exact h.tw _ t q l hkt r1 hr1 p hp
      · rw [List.mem_singleton.1 hr1] at hp
        exact h.wr hk rfl (by rw [← ha]; exact hp)
    · exact h1.tw k1 t1 q1 l1 (hold k1 _ g1 c1) r1 hr1 p hp
  · have c2 : k2 ≠ kt := fun e => by subst e; rw [hbt.1] at e1; cases e1
    have g2' := hold k2 _ g2 c2
    by_cases c1 : k1 = kt
    · subst c1; rw [upd_same] at g1; cases g1
      rcases List.mem_append.1 hr1 with hr1 | hr1
      · exact h1.tr _ k2 t q l e p hkt1 g2' hl e1 r1 hr1 p' hp'
      · rw [List.mem_singleton.1 hr1] at hp'
        have c3 : k2 ≠ k := fun e' => by subst e'; rw [upd_same] at g2'; cases g2'
        rw [upd_ne c3] at g2'
        exact fun e' => h.inj k k2 _ _ p' p hk g2' rfl (by simp only [Blk.live, Bool.not_eq_true']; exact nbeq_ne (by omega)) (Ne.symm c3) (by rw [← ha]; exact hp') e1 e'.symm
    · exact h1.tr k1 k2 t1 q1 l1 e p (hold k1 _ g1 c1) g2' hl e1 r1 hr1 p' hp'
theorem Ghost.freeze (k kt : Nat) {t : TypeId} {c : Nat} {xs : List Int} {l : List Row} (hk : H k = some (.own t c (.ints xs))) (hkt : H kt = some (.tok t false l)) :
    Ghost E H nx fun H' nx' => ∃ a, H' = upd (upd H k (.al a (.ints xs))) kt (.tok t false (l ++ [⟨a, c, xs, []⟩])) ∧ nx' = nx := fun ρ _ h =>
  ⟨_, nx, ρ, ⟨ρ k, rfl, rfl⟩, h.freeze (q := false) (r := ⟨ρ k, c, xs, []⟩) hk hkt rfl rfl, fun _ _ => rfl, Nat.le_refl _⟩
theorem Ghost.freezeP (k kt : Nat) {t : TypeId} {c : Nat} {ps : List (Int × Int)} {l : List Row} (hk : H k = some (.own t c (.i2 ps))) (hkt : H kt = some (.tok t true l)) :
    Ghost E H nx fun H' nx' => ∃ a, H' = upd (upd H k (.al a (.i2 ps))) kt (.tok t true (l ++ [⟨a, c, [], ps⟩])) ∧ nx' = nx := fun ρ _ h =>
  ⟨_, nx, ρ, ⟨ρ k, rfl, rfl⟩, h.freeze (q := true) (r := ⟨ρ k, c, [], ps⟩) hk hkt rfl rfl, fun _ _ => rfl, Nat.le_refl _⟩
theorem Ghost.kill (k : Nat) (hk : Nat.blt k nx = true) : Ghost E H nx fun H' nx' => H' = upd H k .dead ∧ nx' = nx := fun ρ _ h => ⟨_, nx, ρ, ⟨rfl, rfl⟩, h.kill (nblt hk), fun _ _ => rfl, Nat.le_refl _⟩
end
section
variable {E : Env} {ρ : Rho} {H : Nat → Option Blk} {nx : Nat} {w : World}
theorem HInv.view (h : HInv E ρ H nx w) {k o m : Nat} {b : Blk} {e e' : Elts} (hk : H k = some b) (hb : b.isOwn = false) (he : b.elts = some e) (hs : e.sub o m = some e') (hle : o + m ≤ e.len) (hr : e.rds = []) (hks : keysOf e.all = []) :
    HInv E (setR ρ nx ((ρ k).map fun p => (p.1, p.2 + o * e.sz))) (upd H nx (.al ((ρ k).map fun p => (p.1, p.2 + o * e.sz)) e')) (nx + 1) w := by
  obtain ⟨s1, s2, s3⟩ := Elts.sub_sound hs hle
  have hr' : e'.rds = [] := by
    cases c : e'.rds with
    | nil => rfl
    | cons x l => have := Elts.sub_rds hs x (by rw [c]; simp); rw [hr] at this; cases this
  have hk' : keysOf e'.all = [] := by
    apply List.eq_nil_iff_forall_not_mem.2
    intro q hq
    obtain ⟨s, hs, hq⟩ := List.mem_flatMap.1 hq
    rw [s3] at hs
    have : q ∈ keysOf e.all := List.mem_flatMap.2 ⟨s, List.mem_of_mem_drop (List.mem_of_mem_take hs), hq⟩
    rw [hks] at this; cases this
  have hro := (h.blk k b hk).asRo he
  have hkn := (h.key k b hk).1
  refine h.add (row := none) ⟨rfl, rfl, rfl, Nat.le_refl _, fun _ _ _ => rfl⟩ (fun _ e => by cases e) (fun _ _ _ _ _ _ e => by cases e) (fun _ _ _ _ _ e => by cases e) (fun p hp hl => ?_) (fun x hx => ?_) (fun k1 b1 p1 g _ _ _ hf => ?_) (fun _ _ _ e => by cases e) ⟨setR_same, ?_⟩ (fun q hq => ?_)
  · refine ⟨(fun e => nomatch e), (fun e => nomatch e), (fun k1 b1 p1 hk1 ho1 hp1 => ?_), (fun e => nomatch e), (fun e => nomatch e)⟩
    have hl' : 0 < e.len := by
      simp only [Blk.live, Bool.not_eq_true'] at hl
      have := Nat.ne_of_beq_eq_false hl
      omega
    have hbl : b.live = true := by
      cases b with
      | dead => cases he
      | ro e0 => cases he; simp only [Blk.live, Bool.not_eq_true']; exact nbeq_ne (by omega)
      | own t c e0 => rfl
      | al a e0 => cases he; simp only [Blk.live, Bool.not_eq_true']; exact nbeq_ne (by omega)
      | tok t q l => cases he
    cases hq : ρ k with
    | none => rw [hq] at hp; cases hp
    | some q =>
      rw [hq] at hp
      cases hp
      exact h.inj k1 k b1 b p1 q hk1 hk ho1 hbl (fun e => by subst e; rw [hk] at hk1; cases hk1; rw [hb] at ho1; cases ho1) hp1 hq
  · have : x ∈ e'.rds := hx
    rw [hr'] at this; cases this
  · obtain ⟨x, hx, _⟩ := hf
    have : x ∈ e'.rds := hx
    rw [hr'] at this; cases this
  · rw [setR_same]
    simp only [BlkOK] at hro
    cases hq : ρ k with
    | none => rw [hq] at hro; simp only [Option.map_none]; omega
    | some q =>
      rw [hq] at hro
      simp only [Option.map_some]
      refine ⟨fun h0 => hro.1 (by omega), fun j u hu => ?_⟩
      rw [s3, List.getElem?_take] at hu
      split at hu
      · rw [List.getElem?_drop] at hu
        have h1 := hro.2 _ u hu
        rw [Nat.add_assoc, h1]
        refine congrArg some (SV.conc_congr fun q hq => ?_)
        have : q ∈ keysOf e.all := List.mem_flatMap.2 ⟨u, List.mem_of_getElem? hu, hq⟩
        rw [hks] at this; cases this
      · cases hu
  · have : q ∈ keysOf e'.all := hq
    rw [hk'] at this; cases this
end
section
variable {P : Program} {E : Env} {N : Nat} {Q : Post} {fr : Nat → Option AV} {H : Nat → Option Blk} {nx : Nat} {l0 rest : List Oper} {code : Code}
theorem Inv.view {ρ : Rho} {a : Act} {w : World} (hI : Inv E N ρ ⟨fr, H, nx⟩ a w) {t k o m sz cp : Nat} {b : Blk} {e e' : Elts} (ht : fr t = some (.one (.sl k sz o m cp))) (hk : H k = some b) (hb : b.isOwn = false) (he : b.elts = some e) (hs : e.sub o m = some e') (hz : e.sz = sz) (hle : o + m ≤ e.len) (hr : e.rds = []) (hks : keysOf e.all = []) :
    ∃ a' ρ', Inv E N ρ' ⟨upd fr t (.one (.sl nx sz 0 m cp)), upd H nx (.al a' e'), nx + 1⟩ a w := by
  refine ⟨_, _, ?_, hI.h.view hk hb he hs hle hr hks⟩
  have hkn := (hI.h.key k b hk).1
  have hf := hI.f.mono (ρ' := setR ρ nx ((ρ k).map fun p => (p.1, p.2 + o * e.sz))) (nx' := nx + 1) (fun q hq => setR_ne (Nat.ne_of_lt hq)) (Nat.le_succ _)
  refine ⟨hf.defers, hf.size, fun s v hv => ?_, fun s v hv q hq => ?_⟩ <;> dsimp only at hv ⊢
  · by_cases c : s = t
    · subst c
      rw [upd_same] at hv
      cases hv
      rw [hI.f.val _ _ ht]
      simp only [AV.conc, SV.conc, adr, setR_same, Nat.zero_mul]
      cases ρ k with
      | none => rfl
      | some p => simp [hz]
    · rw [upd_ne c] at hv; exact hf.val s v hv
  · by_cases c : s = t
    · subst c
      rw [upd_same] at hv
      cases hv
      simp [AV.keys, SV.keys] at hq
      omega
    · rw [upd_ne c] at hv; exact hf.key s v hv q hq
theorem awpL_view (t : Nat) {k o m sz cp : Nat} {b : Blk} {e e' : Elts} (ht : fr t = some (.one (.sl k sz o m cp))) (hk : H k = some b) (hb : b.isOwn = false) (he : b.elts = some e) (hs : e.sub o m = some e') (hz : e.sz = sz) (hle : o + m ≤ e.len) (hr : e.rds = []) (hks : keysOf e.all = [])
    (h : ∀ a', awpL P E N l0 Q rest ⟨upd fr t (.one (.sl nx sz 0 m cp)), upd H nx (.al a' e'), nx + 1⟩) : awpL P E N l0 Q rest ⟨fr, H, nx⟩ := by
  unfold awpL at *
  intro ρ a w hI
  obtain ⟨a', ρ', hI'⟩ := hI.view ht hk hb he hs hz hle hr hks
  exact h a' ρ' a w hI'
end
end Go.Proofs.YtekpamojojfplaaGreat
namespace Go.Proofs.YtekpamojojfplaaGreat
open Go.RowKit
def Row.put (r : Row) (ys : List Int) : Row := ⟨r.a, r.cap, ys, r.ps⟩
def forgetH (H : Nat → Option Blk) : Nat → Option Blk := fun k => match H k with
  | some b => some b.forget
  | none => none
section
variable {E : Env} {ρ : Rho} {H : Nat → Option Blk} {nx : Nat} {w w' : World}
theorem forgetH_at {k : Nat} {b : Blk} (h : forgetH H k = some b) : ∃ b0, H k = some b0 ∧ b = b0.forget := by
  unfold forgetH at h
  split at h
  · cases h; exact ⟨_, ‹_›, rfl⟩
  · cases h
theorem HInv.rowPut (h : HInv E ρ H nx w) {kt : Nat} {t : TypeId} {q : Bool} {l1 l2 : List Row} {r r' : Row} (hkt : H kt = some (.tok t q (l1 ++ r :: l2))) (ha : r'.a = r.a) (hr' : RowOwn w' t q r') {row : Option Nat} (hg : w.grownBy w' row) (hrow : ∀ g, row = some g → ∃ p, r.a = some p ∧ p.1 = g) :
    HInv E ρ (upd (forgetH H) kt (.tok t q (l1 ++ r' :: l2))) nx w' := by
  have hbt := h.blk kt _ hkt
  simp only [BlkOK] at hbt
  obtain ⟨hz, hown, hpw⟩ := hbt
  have hpw2 := List.pairwise_append.1 hpw
  have hpw3 := List.pairwise_cons.1 hpw2.2.1
  have hfarT : ∀ r1, r1 ∈ l1 ∨ r1 ∈ l2 → Apart r1 r := fun r1 hr1 => by
    rcases hr1 with h1 | h1
    · exact hpw2.2.2 r1 h1 r (by simp)
    · exact (hpw3.1 r1 h1).symm
  have hmem : ∀ r1 ∈ l1 ++ r' :: l2, ∃ r0 ∈ l1 ++ r :: l2, r0.a = r1.a := fun r1 hr1 => by
    rcases List.mem_append.1 hr1 with h1 | h1
    · exact ⟨r1, List.mem_append_left _ h1, rfl⟩
    · rcases List.mem_cons.1 h1 with rfl | h1
      · exact ⟨r, by simp, ha.symm⟩
      · exact ⟨r1, List.mem_append_right _ (List.mem_cons_of_mem _ h1), rfl⟩
  have hap : ∀ s, Apart r s → Apart r' s := fun s hs p p' hp hp' => hs p p' (ha ▸ hp) hp'
  have hcase : ∀ k b, upd (forgetH H) kt (.tok t q (l1 ++ r' :: l2)) k = some b → (k = kt ∧ b = .tok t q (l1 ++ r' :: l2)) ∨ (k ≠ kt ∧ ∃ b0, H k = some b0 ∧ b = b0.forget) := fun k b hu => by
    by_cases c : k = kt
    · subst c; rw [upd_same] at hu; cases hu; exact .inl ⟨rfl, rfl⟩
    · rw [upd_ne c] at hu; exact .inr ⟨c, forgetH_at hu⟩
  have hFr : ∀ p, r.a = some p → (Blk.tok t q (l1 ++ r :: l2)).Far p.1 := fun p hp => ⟨r, by simp, p, hp, rfl⟩
  have hrowne : ∀ g, (∀ p, r.a = some p → g ≠ p.1) → some g ≠ row := fun g hne e => by
    obtain ⟨p, hp, hpg⟩ := hrow g e.symm
    exact hne p hp hpg.symm
  refine ⟨h.nil, fun k b hu => ?_, fun k b hu => ?_, fun k k' b b' p p' hu hu' ho hl hne e e' => ?_, fun k b p hu hl hal hn e => ?_, fun k b hu ho hn => ?_, h.keeps.grown hg (fun g e => ?_), h.ent, h.n0, h.pos, fun k b hu x hx => ?_, fun k k' b b' p g hu hu' ho e hf => ?_, fun k k' t1 t2 q1 q2 m1 m2 hu hu' hne r1 hr1 r2 hr2 => ?_, fun k t1 q1 m1 hu r1 hr1 p hp => ?_, fun k k' t1 q1 m1 e p hu hu' hl e1 r1 hr1 p' hp' => ?_⟩
  · rcases hcase k b hu with ⟨rfl, rfl⟩ | ⟨c, b0, hb0, rfl⟩
    · refine ⟨hz, fun r1 hr1 => ?_, ?_⟩
      · rcases List.mem_append.1 hr1 with h1 | h1
        · exact (hown r1 (List.mem_append_left _ h1)).grown hg fun p hp => hrowne p.1 fun p2 hp2 => hfarT r1 (.inl h1) p p2 hp hp2
        · rcases List.mem_cons.1 h1 with rfl | h1
          · exact hr'
          · exact (hown r1 (List.mem_append_right _ (List.mem_cons_of_mem _ h1))).grown hg fun p hp => hrowne p.1 fun p2 hp2 => hfarT r1 (.inr h1) p p2 hp hp2
      · refine List.pairwise_append.2 ⟨hpw2.1, List.pairwise_cons.2 ⟨fun s hs => hap s (hpw3.1 s hs), hpw3.2⟩, fun s hs s' hs' => ?_⟩
        rcases List.mem_cons.1 hs' with rfl | hs'
        · exact (hap s (hfarT s (.inl hs)).symm).symm
        · exact hpw2.2.2 s hs s' (List.mem_cons_of_mem _ hs')
    · have hb1 : BlkOK ρ k w b0.forget := (h.blk k b0 hb0).forget
      refine hb1.grown hg (fun hl p hp => hrowne p.1 fun p2 hp2 => ?_) fun g hf => hrowne g fun p2 hp2 => ?_
      · have hl0 := Blk.forget_live b0 hl
        cases b0 with
        | dead => cases hl
        | ro e0 => exact fun e => h.tr kt k t q _ e0 p hkt hb0 (Blk.live_ro hl0) hp r (by simp) p2 hp2 e
        | own t0 c0 e0 => exact h.far k kt _ _ p p2.1 hb0 hkt rfl hp (hFr p2 hp2)
        | al a0 e0 => cases hl
        | tok t0 q0 m0 =>
          have := h.blk k _ hb0
          simp only [BlkOK] at this
          rw [this.1] at hp; cases hp
      · obtain ⟨t0, q0, m0, rfl⟩ := Blk.forget_Far hf
        obtain ⟨s, hs, p, hp, rfl⟩ := hf
        exact h.tt k kt t0 t q0 q m0 _ hb0 hkt c s hs r (by simp) p p2 hp hp2
  · rcases hcase k b hu with ⟨rfl, rfl⟩ | ⟨c, b0, hb0, rfl⟩
    · exact ⟨(h.key _ _ hkt).1, fun _ hk => by cases hk⟩
    · have hx := h.key k b0 hb0
      exact ⟨hx.1, fun k' hk' => hx.2 k' (Blk.forget_keys b0 k' hk')⟩
  · rcases hcase k b hu with ⟨rfl, rfl⟩ | ⟨c, b0, hb0, rfl⟩
    · rw [hz] at e; cases e
    · rcases hcase k' b' hu' with ⟨rfl, rfl⟩ | ⟨c', b0', hb0', rfl⟩
      · rw [hz] at e'; cases e'
      · exact h.inj k k' b0 b0' p p' hb0 hb0' (by rw [← Blk.forget_own]; exact ho) (Blk.forget_live b0' hl) hne e e'
  · rcases hcase k b hu with ⟨rfl, rfl⟩ | ⟨c, b0, hb0, rfl⟩
    · rw [hz] at e; cases e
    · refine h.new k b0 p hb0 (Blk.forget_live b0 hl) ?_ hn e
      cases b0 with
      | al a0 e0 => cases hl
      | _ => rfl
  · rcases hcase k b hu with ⟨rfl, rfl⟩ | ⟨c, b0, hb0, rfl⟩
    · exact h.old _ _ hkt rfl hn
    · exact h.old k b0 hb0 (by rw [← Blk.forget_own]; exact ho) hn
  · obtain ⟨p, hp, hpg⟩ := hrow g e
    rw [← hpg]; exact h.tw kt t q _ hkt r (by simp) p hp
  · rcases hcase k b hu with ⟨rfl, rfl⟩ | ⟨c, b0, hb0, rfl⟩
    · cases hx
    · rw [Blk.forget_rds] at hx; cases hx
  · rcases hcase k b hu with ⟨rfl, rfl⟩ | ⟨c, b0, hb0, rfl⟩
    · rw [hz] at e; cases e
    · rw [Blk.forget_own] at ho
      rcases hcase k' b' hu' with ⟨rfl, rfl⟩ | ⟨c', b0', hb0', rfl⟩
      · obtain ⟨r1, hr1, p1, hp1, rfl⟩ := hf
        obtain ⟨r0, hr0, e0⟩ := hmem r1 hr1
        exact h.far k _ b0 _ p p1.1 hb0 hkt ho e ⟨r0, hr0, p1, by rw [e0]; exact hp1, rfl⟩
      · obtain ⟨t0, q0, m0, rfl⟩ := Blk.forget_Far hf
        exact h.far k k' b0 _ p g hb0 hb0' ho e hf
  · rcases hcase k _ hu with ⟨rfl, c1⟩ | ⟨c, b0, hb0, c1⟩
    · cases c1
      obtain ⟨r0, hr0, e0⟩ := hmem r1 hr1
      rcases hcase k' _ hu' with ⟨rfl, c2⟩ | ⟨c', b0', hb0', c2⟩
      · exact absurd rfl hne
      · have := forget_tok c2.symm
        subst this
        exact fun p p' hp hp' => h.tt _ k' t t2 q q2 _ m2 hkt hb0' hne r0 hr0 r2 hr2 p p' (by rw [e0]; exact hp) hp'
    · have := forget_tok c1.symm
      subst this
      rcases hcase k' _ hu' with ⟨rfl, c2⟩ | ⟨c', b0', hb0', c2⟩
      · cases c2
        obtain ⟨r0, hr0, e0⟩ := hmem r2 hr2
        exact fun p p' hp hp' => h.tt k _ t1 t q1 q m1 _ hb0 hkt hne r1 hr1 r0 hr0 p p' hp (by rw [e0]; exact hp')
      · have := forget_tok c2.symm
        subst this
        exact h.tt k k' t1 t2 q1 q2 m1 m2 hb0 hb0' hne r1 hr1 r2 hr2
  · rcases hcase k _ hu with ⟨rfl, c1⟩ | ⟨c, b0, hb0, c1⟩
    · cases c1
      obtain ⟨r0, hr0, e0⟩ := hmem r1 hr1
      exact h.tw _ t q _ hkt r0 hr0 p (by rw [e0]; exact hp)
    · have := forget_tok c1.symm
      subst this
      exact h.tw k t1 q1 m1 hb0 r1 hr1 p hp
  · rcases hcase k' _ hu' with ⟨rfl, c2⟩ | ⟨c', b0', hb0', c2⟩
    · cases c2
    · obtain ⟨e0, rfl, h2⟩ := forget_ro c2.symm
      rcases hcase k _ hu with ⟨rfl, c1⟩ | ⟨c, b0, hb0, c1⟩
      · cases c1
        obtain ⟨r0, hr0, e3⟩ := hmem r1 hr1
        exact h.tr _ k' t q _ e0 p hkt hb0' (by omega) e1 r0 hr0 p' (by rw [e3]; exact hp')
      · have := forget_tok c1.symm
        subst this
        exact h.tr k k' t1 q1 m1 e0 p hb0 hb0' (by omega) e1 r1 hr1 p' hp'
theorem HInv.rowIn (h : HInv E ρ H nx w) {kt : Nat} {t : TypeId} {l1 l2 : List Row} {r : Row} (hkt : H kt = some (.tok t false (l1 ++ r :: l2))) :
    HInv (envOf w (fun k => if k = 1 then r.a else none) [(1, .own t r.cap (.ints r.xs))] 2) (fun k => if k = 1 then r.a else none) (lk [(1, .own t r.cap (.ints r.xs))]) 2 w := by
  have hbt := h.blk kt _ hkt
  simp only [BlkOK] at hbt
  have hr := hbt.2.1 r (by simp)
  have hlk : ∀ k b, lk [(1, Blk.own t r.cap (.ints r.xs))] k = some b → k = 1 ∧ b = .own t r.cap (.ints r.xs) := fun k b hb => by
    unfold lk at hb
    cases e : Nat.beq k 1 with
    | true => rw [e] at hb; cases hb; exact ⟨Nat.eq_of_beq_eq_true e, rfl⟩
    | false => rw [e] at hb; cases hb
  have hnoF : ∀ g, ¬ (Blk.own t r.cap (.ints r.xs)).Far g := fun g ⟨x, hx, _⟩ => by cases hx
  refine ⟨rfl, fun k b hb => ?_, fun k b hb => ?_, fun k k' b b' p p' hb hb' _ _ hne => ?_, fun k b p hb _ _ hn => ?_, fun k b hb ho _ => ⟨b, hb, ho⟩, ⟨rfl, rfl, rfl, Nat.le_refl _, fun _ _ _ _ => rfl⟩, fun _ _ => rfl, Nat.le_refl _, Nat.zero_lt_succ _, fun k b hb x hx => ?_, fun k k' b b' p g hb hb' _ _ hf => ?_, fun k k' t1 t2 q1 q2 m1 m2 hb => ?_, fun k t1 q1 m1 hb => ?_, fun k k' t1 q1 m1 e p hb => ?_⟩
  · obtain ⟨rfl, rfl⟩ := hlk k b hb
    have e2 : cells (fun k => if k = 1 then r.a else none) (r.svs false) = cells noRho (r.svs false) := List.map_congr_left fun s hs => noKeys_conc (Row.svs_keys false r s hs) _ noRho
    have e3 : (Elts.ints r.xs).all = r.svs false := rfl
    have e1 : Value.slice (adr (fun k => if k = 1 then r.a else none) 1 0) (Elts.ints r.xs).len r.cap = r.val false := by simp [Row.val, adr, Row.len, Elts.len]
    simp only [BlkOK]
    rw [e1, e3, e2]
    exact hr
  · obtain ⟨rfl, rfl⟩ := hlk k b hb
    exact ⟨Nat.lt_succ_self _, fun k' hk' => by simp [Blk.keys, Elts.keys, Elts.all, ints_keys] at hk'⟩
  · obtain ⟨rfl, _⟩ := hlk k b hb
    obtain ⟨rfl, _⟩ := hlk k' b' hb'
    exact absurd rfl hne
  · obtain ⟨rfl, _⟩ := hlk k b hb
    exact absurd hn (by simp [envOf])
  · obtain ⟨rfl, rfl⟩ := hlk k b hb
    cases hx
  · obtain ⟨rfl, rfl⟩ := hlk k' b' hb'
    exact (hnoF g hf).elim
  · cases (hlk k _ hb).2
  · cases (hlk k _ hb).2
  · cases (hlk k _ hb).2
end
section
variable {P : Program} {E : Env} {N : Nat} {Q : Post} {fr : Nat → Option AV} {H : Nat → Option Blk} {nx : Nat} {l0 rest : List Oper} {σ : St}
theorem OpR.row {o : Oper} {f : FuncId} {r : Row} {t : TypeId} {args : List AV} {v : AV} {ys : List Int} {c : Nat} (hD : Does P f (.one (.sl 1 1 0 r.xs.length c) :: args) [(1, .own t r.cap (.ints r.xs))] 2 (fun v' Hout n1 => v' = v ∧ Hout = [(1, .own t r.cap (.ints ys))] ∧ n1 = 2)) (hcc : c = r.cap)
    {fo : Operand} {xs : Array Operand} {ts : Array TypeId} (ho : o.op = .call ⟨.value fo, xs, ts⟩) (hl : callArgs σ.fr fo xs = some (f, .one (.hd r.a r.xs.length r.cap) :: args)) (hk : args.flatMap AV.keys = []) (hv : v.keys = []) {kt : Nat} {l1 l2 : List Row} (hkt : σ.H kt = some (.tok t false (l1 ++ r :: l2))) :
    OpR P o E N σ (det v (upd (forgetH σ.H) kt (.tok t false (l1 ++ r.put ys :: l2))) σ.nx) := by
  subst hcc
  intro ρ a w hI K Q hK
  obtain ⟨⟨fn, hfn, hnm, hbody⟩, hcalls⟩ := hD
  unfold callArgs at hl
  split at hl
  · rename_i g caps l hg hlv
    simp only [Option.some.injEq, Prod.mk.injEq] at hl
    obtain ⟨rfl, hargs⟩ := hl
    obtain ⟨e1, _⟩ := ev_sound hI.f hI.h.nil hI.h.hb.pos hg
    obtain ⟨e2, _⟩ := evs_sound hI hlv
    have e1' : a.eval fo = .func (.func g) #[] (caps.map fun p => Value.pointer (adr ρ p.1 0)).toArray := e1
    let ρc : Rho := fun k => if k = 1 then r.a else none
    have hconc : (AV.one (.sl 1 1 0 r.xs.length r.cap) :: args).map (AV.conc ρc) = (l ++ caps.map capAV).map (AV.conc ρ) := by
      rw [hargs]
      simp only [List.map_cons]
      rw [List.cons.injEq]
      refine ⟨?_, ?_⟩
      · simp [AV.conc, SV.conc, adr, ρc]
      · refine List.map_congr_left fun u hu => AV.conc_congr fun k hk' => ?_
        have : k ∈ args.flatMap AV.keys := List.mem_flatMap.2 ⟨u, hu, hk'⟩
        rw [hk] at this; cases this
    have hrun : (execOp a.eval o).run P w = .ok (.enter g ((AV.one (.sl 1 1 0 r.xs.length r.cap) :: args).map (AV.conc ρc)).toArray) w := by
      have hxs : xs.map a.eval = (l.map (AV.conc ρ)).toArray := by rw [← e2, ← Array.toList_map, Array.toArray_toList]
      simp only [execOp, ho, resolve, e1', hxs, Deferred.ofValue, Sem.run_bind, Sem.run_pure, Result.andThen_ok, invoke, callFunc]
      rw [hconc]
      have hnm' : fn.name ≠ "runtime.NumGoroutine" := by simpa using hnm
      have hbody' : fn.body ≠ none := fun e => by rw [e] at hbody; cases hbody
      simp [hfn, hnm', hbody', List.map_map]
      intro a b _
      simp [capAV, AV.conc, SV.conc]
    have hc := hcalls ρc w (hI.h.rowIn hkt) (fun u hu k hk' => by
      rcases List.mem_cons.1 hu with rfl | hu
      · simp [AV.keys, SV.keys] at hk'; omega
      · have : k ∈ args.flatMap AV.keys := List.mem_flatMap.2 ⟨u, hu, hk'⟩
        rw [hk] at this; cases this)
    unfold Oper.wp
    rw [hrun, Oper.upon_enter]
    refine hc.mono fun e w' ⟨ρ', v1, Hout, n1, ⟨h1, h2, h3⟩, h4, h5, _, _⟩ => ?_
    subst h1 h2 h3 h4
    have hρ1 : ρ' 1 = r.a := h5.ent 1 (Nat.lt_succ_self _)
    have hb := h5.blk 1 _ rfl
    have hown : RowOwn w' t false (r.put ys) := by
      have e3 : Value.slice (adr ρ' 1 0) (Elts.ints ys).len r.cap = (r.put ys).val false := by simp [Row.val, adr, hρ1, Row.len, Elts.len, Row.put]
      have e4 : cells ρ' ((r.put ys).svs false) = cells noRho ((r.put ys).svs false) := List.map_congr_left fun s hs => noKeys_conc (Row.svs_keys false (r.put ys) s hs) _ noRho
      have e5 : (Elts.ints ys).all = (r.put ys).svs false := rfl
      simp only [BlkOK] at hb
      rw [e3, e5, e4] at hb
      exact hb
    have hkeep := h5.keeps
    have hg2 : w.grownBy w' (r.a.map (·.1)) := ⟨hkeep.os, hkeep.tape, hkeep.output, hkeep.size, fun b hb' hne => hkeep.block b hb' (fun k p hk1 hk2 hp e => ?_) fun ⟨k, t1, q1, m1, hm, _⟩ => ?_⟩
    · have hres := hI.h.rowPut hkt (r' := r.put ys) rfl hown hg2 fun g hg' => by
        cases hra : r.a with
        | none => rw [hra] at hg'; cases hg'
        | some p => rw [hra] at hg'; exact ⟨p, rfl, by simpa using hg'⟩
      have hvc : v1.conc ρ' = v1.conc ρ := AV.conc_congr fun k hk' => by rw [hv] at hk'; cases hk'
      rw [hvc]
      exact hK ρ w' v1 _ σ.nx ⟨rfl, rfl, rfl⟩ hres (fun _ _ => rfl) (Nat.le_refl _) (by simp [hv])
    · have hk3 : k = 1 := by
        obtain ⟨b1, hb1, _⟩ := hk2
        unfold lk at hb1
        cases e3 : Nat.beq k 1 with
        | true => exact Nat.eq_of_beq_eq_true e3
        | false => rw [e3] at hb1; cases hb1
      subst hk3
      have hp' : r.a = some p := hp
      exact hne (by rw [hp']; simp [e])
    · unfold lk at hm
      cases e3 : Nat.beq k 1 with
      | true => rw [e3] at hm; cases hm
      | false => rw [e3] at hm; cases hm
  · cases hl
theorem awpL_callM (m : List (Nat × Nat)) {o : Oper} {f : FuncId} {args : List AV} {Hin : List (Nat × Blk)} {n0 d : Nat} {Out : AV → List (Nat × Blk) → Nat → Prop} (hD : Does P f args Hin n0 Out) {fo : Operand} {xs : Array Operand} {ts : Array TypeId}
    (ho : o.op = .call ⟨.value fo, xs, ts⟩) (hdst : o.dst = some d) {l : List AV} (hl : callArgs fr fo xs = some (f, l)) (ha : l = args.map (AV.ren (mp m))) (hw : wantA l0 fr o = some true) (hd : inFrame N o.dst = true) (hk : leB n0 (args.flatMap AV.keys) = true)
    (hf : FitB H (mp m) Hin) (hok : okCall n0 nx m Hin = true)
    (h : ∀ v Hout n1, Out v Hout n1 → awpL P E N l0 Q rest ⟨upd fr d (v.ren (mq m n0 nx)), afterH H m n0 nx Hin Hout, nx + (n1 - n0)⟩) : awpL P E N l0 Q (o :: rest) ⟨fr, H, nx⟩ :=
  w_H (σ := ⟨fr, H, nx⟩) hw hd (OpR.call hD ho m (ha ▸ hl) hk hf hok) fun _ _ _ ⟨v, Hout, n1, h1, e1, e2, e3⟩ => by subst e1 e2 e3; rw [hdst]; exact h v Hout n1 h1
end
section
variable {E : Env} {H : Nat → Option Blk} {nx : Nat}
theorem Ghost.retell (k kt : Nat) (e' : Elts) {t tt : TypeId} {c : Nat} {q : Bool} {e : Elts} {l : List Row} (hk : H k = some (.own t c e)) (hkt : H kt = some (.tok tt q l)) (e1 : e'.all = e.all) (e2 : e'.len = e.len) (e3 : e'.sz = e.sz) (hs : ∀ x ∈ e'.rds, x.1 = q ∧ x.2 ∈ l) : Ghost E H nx fun H' nx' => H' = upd H k (.own t c e') ∧ nx' = nx := fun ρ w h => by
  refine ⟨_, nx, ρ, ⟨rfl, rfl⟩, ?_, fun _ _ => rfl, Nat.le_refl _⟩
  have hb := h.blk k _ hk
  have hbt := h.blk kt _ hkt
  simp only [BlkOK] at hb hbt
  refine h.change hk ?_ (fun k' hk' => (h.key k _ hk).2 k' ?_) (fun _ => rfl) (fun _ => rfl) (fun _ _ => rfl) (fun _ e => nomatch e) (fun x hx => ?_) (fun k1 b1 p g h1 ho e1 hf => ?_) (fun _ _ _ e => nomatch e)
  · simp only [BlkOK, e1, e2, e3]; exact hb
  · have : k' ∈ keysOf e'.all := hk'
    rw [e1] at this; exact this
  · obtain ⟨f1, f2⟩ := hs x hx
    rw [f1]
    exact (hbt.2.1 x.2 f2).at_
  · obtain ⟨x, hx, h0, p', hp', rfl⟩ := hf
    obtain ⟨f1, f2⟩ := hs x hx
    have hF : (Blk.tok tt q l).Far p'.1 := ⟨x.2, f2, p', hp', rfl⟩
    by_cases c : k1 = k
    · subst c; rw [upd_same] at h1; cases h1
      exact h.far k1 kt _ _ p p'.1 hk hkt rfl e1 hF
    · rw [upd_ne c] at h1
      exact h.far k1 kt b1 _ p p'.1 h1 hkt ho e1 hF
end
end Go.Proofs.YtekpamojojfplaaGreat
namespace Go.Proofs.YtekpamojojfplaaGreat
open Go.RowKit
section
variable {E : Env} {ρ : Rho} {H : Nat → Option Blk} {nx : Nat} {w : World}
end
section
variable {P : Program} {E : Env} {N : Nat} {Q : Post} {fr : Nat → Option AV} {H : Nat → Option Blk} {nx : Nat} {l0 rest : List Oper} {code : Code}
end
end Go.Proofs.YtekpamojojfplaaGreat
