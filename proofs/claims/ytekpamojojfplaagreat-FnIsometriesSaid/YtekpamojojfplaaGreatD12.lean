/-
  TEXTS OF THE PROOF, put together: Am9, bRows, bBasis, pNorm, pNorm2.
-/
import Derived.Test.YtekpamojojfplaaGreatD07
import Derived.Test.YtekpamojojfplaaGreatD08
import Derived.Test.YtekpamojojfplaaGreatD09
import Derived.Test.YtekpamojojfplaaGreatD11
set_option linter.unusedVariables false
set_option linter.unusedSimpArgs false
namespace Go.Proofs.YtekpamojojfplaaGreat
open Go.RowKit
def Ghost (E : Env) (H : Nat → Option Blk) (nx : Nat) (G : (Nat → Option Blk) → Nat → Prop) : Prop := ∀ ρ w, HInv E ρ H nx w → ∃ H' nx' ρ', G H' nx' ∧ HInv E ρ' H' nx' w ∧ (∀ k, k < nx → ρ' k = ρ k) ∧ nx ≤ nx'
section
variable {P : Program} {tab : List (Nat × TD)} {E : Env} {N : Nat} {Q : Post} {fr : Nat → Option AV} {H : Nat → Option Blk} {nx : Nat} {G : (Nat → Option Blk) → Nat → Prop}
variable {l0 rest : List Oper} {ρs : Rho} {nxs : Nat} {hs : List (Nat × Blk)} {fuel : Nat} {listed : Array Bool} {code : Code}
theorem awp_ghost (hg : Ghost E H nx G) (h : ∀ H' nx', G H' nx' → awp P E N code Q ⟨fr, H', nx'⟩) : awp P E N code Q ⟨fr, H, nx⟩ := by
  unfold awp at *
  intro ρ a w hI
  obtain ⟨H', nx', ρ', h1, h2, h3, h4⟩ := hg ρ w hI.h
  exact h H' nx' h1 ρ' a w ⟨hI.f.mono h3 h4, h2⟩
theorem awpL_ghost (hg : Ghost E H nx G) (h : ∀ H' nx', G H' nx' → awpL P E N l0 Q rest ⟨fr, H', nx'⟩) : awpL P E N l0 Q rest ⟨fr, H, nx⟩ := by
  unfold awpL at *
  intro ρ a w hI
  obtain ⟨H', nx', ρ', h1, h2, h3, h4⟩ := hg ρ w hI.h
  exact h H' nx' h1 ρ' a w ⟨hI.f.mono h3 h4, h2⟩
theorem awpH_ghost (hg : Ghost E H nx G) (h : ∀ H' nx', G H' nx' → awpH P E N l0 Q ρs nxs hs fuel listed ⟨fr, H', nx'⟩) : awpH P E N l0 Q ρs nxs hs fuel listed ⟨fr, H, nx⟩ := by
  unfold awpH at *
  intro ρ a w hh
  obtain ⟨H', nx', ρ', h1, h2, h3, h4⟩ := hg ρ w hh.inv.h
  exact h H' nx' h1 ρ' a w ⟨⟨hh.inv.f.mono h3 h4, h2⟩, fun k hk => (h3 k (Nat.lt_of_lt_of_le hk hh.le)).trans (hh.agree k hk), hh.held, Nat.le_trans hh.le h4⟩
theorem awpHop_ghost {i : Nat} (hg : Ghost E H nx G) (h : ∀ H' nx', G H' nx' → awpHop P E N l0 Q ρs nxs hs fuel listed i ⟨fr, H', nx'⟩) : awpHop P E N l0 Q ρs nxs hs fuel listed i ⟨fr, H, nx⟩ := by
  unfold awpHop at *
  intro ρ a w hh
  obtain ⟨H', nx', ρ', h1, h2, h3, h4⟩ := hg ρ w hh.inv.h
  exact h H' nx' h1 ρ' a w ⟨⟨hh.inv.f.mono h3 h4, h2⟩, fun k hk => (h3 k (Nat.lt_of_lt_of_le hk hh.le)).trans (hh.agree k hk), hh.held, Nat.le_trans hh.le h4⟩
end
section
variable {E : Env} {ρ : Rho} {H : Nat → Option Blk} {nx : Nat} {w : World}
theorem Blk.elts_rds {b : Blk} {e : Elts} (h : b.elts = some e) : b.rds = e.rds := by cases b <;> cases h <;> rfl
theorem Blk.elts_Far {b : Blk} {e : Elts} {a : Option (Nat × Nat)} (h : b.elts = some e) {g : Nat} (hg : (Blk.al a e).Far g) : b.Far g := by
  obtain ⟨x, hx, h0, p, hp, rfl⟩ := hg
  exact Blk.Far_rds (by rw [Blk.elts_rds h]; exact hx) h0 hp
theorem Blk.elts_keys {b : Blk} {e : Elts} (h : b.elts = some e) : b.keys = e.keys := by cases b <;> cases h <;> rfl
theorem HInv.reveal (h : HInv E ρ H nx w) {k : Nat} {e : Elts} (he : eltsAt H k = some e) : HInv E ρ (upd H k (.al (ρ k) e)) nx w := by
  unfold eltsAt at he
  split at he
  · rename_i b hb
    refine h.change hb ⟨rfl, (h.blk k b hb).asRo he⟩ (fun k' hk' => (h.key k b hb).2 k' (by rw [Blk.elts_keys he]; exact hk')) (fun hl => ?_) (fun e => nomatch e) (fun _ e => nomatch e) (fun _ e => nomatch e) (fun x hx => h.rows k b hb x (by rw [Blk.elts_rds he]; exact hx)) (fun k1 b1 p g h1 ho e1 hf => ?_) (fun _ _ _ e => nomatch e)
    · cases b with
      | dead => cases he
      | ro e' => cases he; exact hl
      | own t c e' => rfl
      | al a e' => cases he; exact hl
      | tok t q l => cases he
    · by_cases c : k1 = k
      · subst c; rw [upd_same] at h1; cases h1; cases ho
      · rw [upd_ne c] at h1
        exact h.far k1 k b1 b p g h1 hb ho e1 (Blk.elts_Far he hf)
  · cases he
theorem Ghost.reveal (k : Nat) {e : Elts} (he : eltsAt H k = some e) : Ghost E H nx fun H' nx' => ∃ a, H' = upd H k (.al a e) ∧ nx' = nx := fun ρ _ h => ⟨_, nx, ρ, ⟨ρ k, rfl, rfl⟩, h.reveal he, fun _ _ => rfl, Nat.le_refl _⟩
theorem HInv.newTok (h : HInv E ρ H nx w) (t : TypeId) (q : Bool) : HInv E (setR ρ nx none) (upd H nx (.tok t q [])) (nx + 1) w :=
  h.add (row := none) (p := none) ⟨rfl, rfl, rfl, Nat.le_refl _, fun _ _ _ => rfl⟩ (fun _ e => by cases e) (fun _ _ _ _ _ _ e => by cases e) (fun _ _ _ _ _ e => by cases e) (fun q e => by cases e) (fun x hx => by cases hx)
    (fun _ _ _ _ _ _ _ hF => by obtain ⟨r, hr, _⟩ := hF; cases hr) (fun _ _ _ e => by cases e; exact ⟨(fun _ _ _ _ _ r hr => nomatch hr), (fun r hr => nomatch hr), (fun _ _ _ _ _ _ r hr => nomatch hr)⟩) ⟨setR_same, fun r hr => (by cases hr), .nil⟩ (fun _ hk => by cases hk)
theorem Ghost.newTok (t : TypeId) (q : Bool) : Ghost E H nx fun H' nx' => H' = upd H nx (.tok t q []) ∧ nx' = nx + 1 := fun ρ _ h => ⟨_, _, _, ⟨rfl, rfl⟩, h.newTok t q, fun k hk => setR_ne (Nat.ne_of_lt hk), Nat.le_succ _⟩
theorem HInv.part (h : HInv E ρ H nx w) {k : Nat} {t : TypeId} {q : Bool} {l l' : List Row} (hk : H k = some (.tok t q l)) (hs : ∀ r ∈ l', r ∈ l) (hp : l.Pairwise Apart → l'.Pairwise Apart) : HInv E ρ (upd H k (.tok t q l')) nx w := by
  have hb := h.blk k _ hk
  simp only [BlkOK] at hb
  refine h.change hk ⟨hb.1, fun r hr => hb.2.1 r (hs r hr), hp hb.2.2⟩ (fun _ hk => by cases hk) (fun _ => rfl) (fun _ => rfl) (fun _ _ => rfl) (fun _ e => nomatch e) (fun x hx => by cases hx) (fun k1 b1 p g h1 ho e1 hf => ?_) (fun _ _ _ e => by cases e; exact ⟨l, rfl, fun r hr => ⟨r, hs r hr, rfl⟩⟩)
  obtain ⟨r, hr, p', hp', rfl⟩ := hf
  by_cases c : k1 = k
  · subst c; rw [upd_same] at h1; cases h1
    rw [hb.1] at e1; cases e1
  · rw [upd_ne c] at h1
    exact h.far k1 k b1 _ p p'.1 h1 hk ho e1 ⟨r, hs r hr, p', hp', rfl⟩
theorem Ghost.part (k : Nat) {t : TypeId} {q : Bool} {l l' : List Row} (hk : H k = some (.tok t q l)) (hs : ∀ r ∈ l', r ∈ l) (hp : l.Pairwise Apart → l'.Pairwise Apart) : Ghost E H nx fun H' nx' => H' = upd H k (.tok t q l') ∧ nx' = nx := fun ρ _ h => ⟨_, nx, ρ, ⟨rfl, rfl⟩, h.part hk hs hp, fun _ _ => rfl, Nat.le_refl _⟩
theorem HInv.partN (h : HInv E ρ H nx w) {k : Nat} {t : TypeId} {l l' : List Row} (hk : H k = some (.tok t false l)) (hs : ∀ r ∈ l', ∃ r0 ∈ l, r0.a = r.a ∧ r0.cap = r.cap ∧ r0.xs = r.xs) (hp : l.Pairwise Apart → l'.Pairwise Apart) : HInv E ρ (upd H k (.tok t false l')) nx w := by
  have hb := h.blk k _ hk
  simp only [BlkOK] at hb
  refine h.change hk ⟨hb.1, fun r hr => ?_, hp hb.2.2⟩ (fun _ hk => by cases hk) (fun _ => rfl) (fun _ => rfl) (fun _ _ => rfl) (fun _ e => nomatch e) (fun x hx => by cases hx) (fun k1 b1 p g h1 ho e1 hf => ?_) (fun _ _ _ e => by cases e; exact ⟨l, rfl, fun r hr => by obtain ⟨r0, h0, e0, _⟩ := hs r hr; exact ⟨r0, h0, e0⟩⟩)
  · obtain ⟨r0, h0, e1, e2, e3⟩ := hs r hr
    have := hb.2.1 r0 h0
    unfold RowOwn Row.val Row.len Row.svs at this ⊢
    simp only [e1, e2, e3] at this
    exact this
  · obtain ⟨r, hr, p', hp', rfl⟩ := hf
    obtain ⟨r0, h0, e0, _⟩ := hs r hr
    by_cases c : k1 = k
    · subst c; rw [upd_same] at h1; cases h1
      rw [hb.1] at e1; cases e1
    · rw [upd_ne c] at h1
      exact h.far k1 k b1 _ p p'.1 h1 hk ho e1 ⟨r0, h0, p', by rw [e0]; exact hp', rfl⟩
theorem Ghost.partN (k : Nat) {t : TypeId} {l : List Row} (l' : List Row) (hk : H k = some (.tok t false l)) (hs : ∀ r ∈ l', ∃ r0 ∈ l, r0.a = r.a ∧ r0.cap = r.cap ∧ r0.xs = r.xs) (hp : l.Pairwise Apart → l'.Pairwise Apart) : Ghost E H nx fun H' nx' => H' = upd H k (.tok t false l') ∧ nx' = nx := fun ρ _ h => ⟨_, nx, ρ, ⟨rfl, rfl⟩, h.partN hk hs hp, fun _ _ => rfl, Nat.le_refl _⟩
theorem Apart.symm {r s : Row} (h : Apart r s) : Apart s r := fun p p' hp hp' e => h p' p hp' hp e.symm
theorem HInv.forget (h : HInv E ρ H nx w) {k : Nat} {b : Blk} (hk : H k = some b) (ha : b.isAl = false) : HInv E ρ (upd H k b.forget) nx w := by
  refine h.change hk (h.blk k b hk).forget (fun k' hk' => (h.key k b hk).2 k' (Blk.forget_keys b k' hk')) (Blk.forget_live b) (fun ho => by rw [Blk.forget_own] at ho; exact ho) (fun _ _ => ha) (fun e he hl => ?_) (fun x hx => by rw [Blk.forget_rds] at hx; cases hx) (fun k1 b1 p g h1 ho e1 hf => ?_) (fun t q l e => ⟨l, forget_tok e, fun r h => ⟨r, h, rfl⟩⟩)
  · obtain ⟨e0, h1, h2⟩ := forget_ro he
    exact ⟨e0, h1, by omega⟩
  · obtain ⟨t, q, l, rfl⟩ := Blk.forget_Far hf
    have hb := h.blk k _ hk
    simp only [BlkOK] at hb
    by_cases c : k1 = k
    · subst c; rw [upd_same] at h1; cases h1
      rw [hb.1] at e1; cases e1
    · rw [upd_ne c] at h1
      exact h.far k1 k b1 _ p g h1 hk ho e1 hf
theorem Ghost.forget (k : Nat) {b : Blk} (hk : H k = some b) (ha : b.isAl = false) : Ghost E H nx fun H' nx' => H' = upd H k b.forget ∧ nx' = nx := fun ρ _ h => ⟨_, nx, ρ, ⟨rfl, rfl⟩, h.forget hk ha, fun _ _ => rfl, Nat.le_refl _⟩
theorem HInv.tell (h : HInv E ρ H nx w) {k kt : Nat} {t tt : TypeId} {c : Nat} {q : Bool} {e e' : Elts} {l : List Row} (hk : H k = some (.own t c e)) (hkt : H kt = some (.tok tt q l)) (he : e.forget = e'.forget) (hs : ∀ x ∈ e'.rds, x.1 = q ∧ x.2 ∈ l) : HInv E ρ (upd H k (.own t c e')) nx w := by
  have e1 : e'.all = e.all := by rw [← Elts.forget_all, ← he, Elts.forget_all]
  have e2 : e'.len = e.len := by rw [← Elts.forget_len, ← he, Elts.forget_len]
  have e3 : e'.sz = e.sz := by rw [← Elts.forget_sz, ← he, Elts.forget_sz]
  have hb := h.blk k _ hk
  have hbt := h.blk kt _ hkt
  simp only [BlkOK] at hb hbt
  refine h.change hk ?_ (fun k' hk' => (h.key k _ hk).2 k' ?_) (fun _ => rfl) (fun _ => rfl) (fun _ _ => rfl) (fun _ e => nomatch e) (fun x hx => ?_) (fun k1 b1 p g h1 ho e1 hf => ?_) (fun _ _ _ e => nomatch e)
  · simp only [BlkOK, e1, e2, e3]; exact hb
  · have : k' ∈ keysOf e'.all := hk'
    rw [e1] at this; exact this
  · obtain ⟨f1, f2⟩ := hs x hx
    rw [f1]
    exact (hbt.2.1 x.2 f2).at_
  · obtain ⟨x, hx, h0, p', hp', rfl⟩ := hf
    obtain ⟨f1, f2⟩ := hs x hx
    have hF : (Blk.tok tt q l).Far p'.1 := ⟨x.2, f2, p', hp', rfl⟩
    by_cases c : k1 = k
    · subst c; rw [upd_same] at h1; cases h1
      exact h.far k1 kt _ _ p p'.1 hk hkt rfl e1 hF
    · rw [upd_ne c] at h1
      exact h.far k1 kt b1 _ p p'.1 h1 hkt ho e1 hF
theorem Ghost.tell (k kt : Nat) (e' : Elts) {t tt : TypeId} {c : Nat} {q : Bool} {e : Elts} {l : List Row} (hk : H k = some (.own t c e)) (hkt : H kt = some (.tok tt q l)) (he : e.forget = e'.forget) (hs : ∀ x ∈ e'.rds, x.1 = q ∧ x.2 ∈ l) : Ghost E H nx fun H' nx' => H' = upd H k (.own t c e') ∧ nx' = nx := fun ρ _ h => ⟨_, nx, ρ, ⟨rfl, rfl⟩, h.tell hk hkt he hs, fun _ _ => rfl, Nat.le_refl _⟩
theorem forget_idem_rows {q : Bool} {f : Bool} {l : List Row} : (Elts.rows q f l).forget = (Elts.rows q true l).forget := rfl
theorem HInv.freeze (h : HInv E ρ H nx w) {k kt : Nat} {t : TypeId} {c : Nat} {q : Bool} {r : Row} {l : List Row} (hk : H k = some (.own t c (r.elts q))) (hkt : H kt = some (.tok t q l)) (hc : r.cap = c) (ha : r.a = ρ k) :
    HInv E ρ (upd (upd H k (.al (ρ k) (r.elts q))) kt (.tok t q (l ++ [r]))) nx w := by
  have hne : k ≠ kt := fun e => by subst e; rw [hk] at hkt; cases hkt
  have hb := h.blk k _ hk
  have hbt := h.blk kt _ hkt
  have hown : RowOwn w t q r := by
    simp only [BlkOK, Row.elts_all, Row.elts_len, Row.elts_sz] at hb
    have e1 : (Value.slice (adr ρ k 0) (r.len q) c) = r.val q := by
      simp only [Row.val, adr, ha, hc]; rfl
    have e2 : cells ρ (r.svs q) = cells noRho (r.svs q) := List.map_congr_left fun s hs => noKeys_conc (Row.svs_keys q r s hs) ρ noRho
    rw [e1, e2] at hb
    exact hb
  simp only [BlkOK] at hbt
  have hfr : ∀ k1 t1 q1 l1, H k1 = some (.tok t1 q1 l1) → ∀ r1 ∈ l1, Apart r1 r := fun k1 t1 q1 l1 h1 r1 hr1 p p' hp hp' e =>
    h.far k k1 _ _ p' p.1 hk h1 rfl (by rw [← ha]; exact hp') ⟨r1, hr1, p, hp, rfl⟩ e.symm
  have h1 := h.reveal (k := k) (e := r.elts q) (by unfold eltsAt; rw [hk]; rfl)
  have hkt1 : upd H k (.al (ρ k) (r.elts q)) kt = some (.tok t q l) := by rw [upd_ne (Ne.symm hne)]; exact hkt
  have hcase : ∀ k1 b1, upd (upd H k (.al (ρ k) (r.elts q))) kt (.tok t q (l ++ [r])) k1 = some b1 → (k1 = kt ∧ b1 = .tok t q (l ++ [r])) ∨ (k1 ≠ kt ∧ k1 = k ∧ b1 = .al (ρ k) (r.elts q)) ∨ (k1 ≠ kt ∧ k1 ≠ k ∧ H k1 = some b1) := fun k1 b1 hu => by
    by_cases c : k1 = kt
    · subst c; rw [upd_same] at hu; cases hu; exact .inl ⟨rfl, rfl⟩
    · rw [upd_ne c] at hu
      by_cases c2 : k1 = k
      · subst c2; rw [upd_same] at hu; cases hu; exact .inr (.inl ⟨c, rfl, rfl⟩)
      · rw [upd_ne c2] at hu; exact .inr (.inr ⟨c, c2, hu⟩)
  have hold : ∀ k1 b1, upd (upd H k (.al (ρ k) (r.elts q))) kt (.tok t q (l ++ [r])) k1 = some b1 → k1 ≠ kt → upd H k (.al (ρ k) (r.elts q)) k1 = some b1 := fun k1 b1 hu hn => by rw [upd_ne hn] at hu; exact hu
  refine ⟨h.nil, fun k1 b1 hu => ?_, fun k1 b1 hu => ?_, fun k1 k2 b1 b2 p1 p2 g1 g2 ho hl hn e1 e2 => ?_, fun k1 b1 p hu hl hal hn e => ?_, fun k1 b1 hu ho hn => ?_, h.keeps, h.ent, h.n0, h.pos, fun k1 b1 hu x hx => ?_, fun k1 k2 b1 b2 p g g1 g2 ho e1 hf => ?_, fun k1 k2 t1 t2 q1 q2 l1 l2 g1 g2 hn r1 hr1 r2 hr2 => ?_, fun k1 t1 q1 l1 g1 r1 hr1 p hp => ?_, fun k1 k2 t1 q1 l1 e p g1 g2 hl e1 r1 hr1 p' hp' => ?_⟩
  · by_cases c : k1 = kt
    · subst c; rw [upd_same] at hu; cases hu
      refine ⟨hbt.1, fun r1 hr1 => ?_, List.pairwise_append.2 ⟨hbt.2.2, by simp, fun r1 hr1 r2 hr2 => ?_⟩⟩
      · rcases List.mem_append.1 hr1 with hr1 | hr1
        · exact hbt.2.1 r1 hr1
        · rw [List.mem_singleton.1 hr1]; exact hown
      · rw [List.mem_singleton.1 hr2]; exact hfr _ _ _ _ hkt r1 hr1
    · exact h1.blk k1 b1 (hold k1 b1 hu c)
  · by_cases c : k1 = kt
    · subst c; rw [upd_same] at hu; cases hu
      exact ⟨(h.key _ _ hkt).1, fun _ hk => by cases hk⟩
    · exact h1.key k1 b1 (hold k1 b1 hu c)
  · have c1 : k1 ≠ kt := fun e => by subst e; rw [hbt.1] at e1; cases e1
    have c2 : k2 ≠ kt := fun e => by subst e; rw [hbt.1] at e2; cases e2
    exact h1.inj k1 k2 b1 b2 p1 p2 (hold k1 b1 g1 c1) (hold k2 b2 g2 c2) ho hl hn e1 e2
  · have c1 : k1 ≠ kt := fun e' => by subst e'; rw [hbt.1] at e; cases e
    exact h1.new k1 b1 p (hold k1 b1 hu c1) hl hal hn e
  · by_cases c : k1 = kt
    · subst c; exact h.old _ _ hkt rfl hn
    · exact h1.old k1 b1 (hold k1 b1 hu c) ho hn
  · by_cases c : k1 = kt
    · subst c; rw [upd_same] at hu; cases hu; cases hx
    · exact h1.rows k1 b1 (hold k1 b1 hu c) x hx
  · have c1 : k1 ≠ kt := fun e => by subst e; rw [hbt.1] at e1; cases e1
    have g1' := hold k1 b1 g1 c1
    by_cases c2 : k2 = kt
    · subst c2; rw [upd_same] at g2; cases g2
      obtain ⟨r1, hr1, p', hp', rfl⟩ := hf
      rcases List.mem_append.1 hr1 with hr1 | hr1
      · exact h1.far k1 _ b1 _ p p'.1 g1' hkt1 ho e1 ⟨r1, hr1, p', hp', rfl⟩
      · rw [List.mem_singleton.1 hr1] at hp'
        have c3 : k1 ≠ k := fun e => by subst e; rw [upd_same] at g1'; cases g1'; cases ho
        rw [upd_ne c3] at g1'
        exact h.inj k1 k b1 _ p p' g1' hk ho rfl c3 e1 (by rw [← ha]; exact hp')
    · exact h1.far k1 k2 b1 b2 p g g1' (hold k2 b2 g2 c2) ho e1 hf
  · have key : ∀ k1 t1 q1 l1, k1 ≠ kt → upd (upd H k (.al (ρ k) (r.elts q))) kt (.tok t q (l ++ [r])) k1 = some (.tok t1 q1 l1) → H k1 = some (.tok t1 q1 l1) := fun k1 t1 q1 l1 c g1 => by
      rcases hcase k1 _ g1 with ⟨e, _⟩ | ⟨_, _, e⟩ | ⟨_, _, e⟩
      · exact absurd e c
      · cases e
      · exact e
    by_cases c1 : k1 = kt
    · subst c1; rw [upd_same] at g1; cases g1
      have g2' := key k2 t2 q2 l2 (Ne.symm hn) g2
      rcases List.mem_append.1 hr1 with hr1 | hr1
      · exact h.tt _ k2 t t2 q q2 l l2 hkt g2' hn r1 hr1 r2 hr2
      · rw [List.mem_singleton.1 hr1]; exact (hfr k2 t2 q2 l2 g2' r2 hr2).symm
    · have g1' := key k1 t1 q1 l1 c1 g1
      by_cases c2 : k2 = kt
      · subst c2; rw [upd_same] at g2; cases g2
        rcases List.mem_append.1 hr2 with hr2 | hr2
        · exact h.tt k1 _ t1 t q1 q l1 l g1' hkt hn r1 hr1 r2 hr2
        · rw [List.mem_singleton.1 hr2]; exact hfr k1 t1 q1 l1 g1' r1 hr1
      · exact h.tt k1 k2 t1 t2 q1 q2 l1 l2 g1' (key k2 t2 q2 l2 c2 g2) hn r1 hr1 r2 hr2
  · by_cases c1 : k1 = kt
    · subst c1; rw [upd_same] at g1; cases g1
      rcases List.mem_append.1 hr1 with hr1 | hr1
      · exact h.tw _ t q l hkt r1 hr1 p hp
      · rw [List.mem_singleton.1 hr1] at hp
        exact h.wr hk rfl (by rw [← ha]; exact hp)
    · exact h1.tw k1 t1 q1 l1 (hold k1 _ g1 c1) r1 hr1 p hp
  · have c2 : k2 ≠ kt := fun e => by subst e; rw [hbt.1] at e1; cases e1
    have g2' := hold k2 _ g2 c2
    by_cases c1 : k1 = kt
    · subst c1; rw [upd_same] at g1; cases g1
      rcases List.mem_append.1 hr1 with hr1 | hr1
      · exact h1.tr _ k2 t q l e p hkt1 g2' hl e1 r1 hr1 p' hp'
      · rw [List.mem_singleton.1 hr1] at hp'
        have c3 : k2 ≠ k := fun e' => by subst e'; rw [upd_same] at g2'; cases g2'
        rw [upd_ne c3] at g2'
        exact fun e' => h.inj k k2 _ _ p' p hk g2' rfl (by simp only [Blk.live, Bool.not_eq_true']; exact nbeq_ne (by omega)) (Ne.symm c3) (by rw [← ha]; exact hp') e1 e'.symm
    · exact h1.tr k1 k2 t1 q1 l1 e p (hold k1 _ g1 c1) g2' hl e1 r1 hr1 p' hp'
theorem Ghost.freeze (k kt : Nat) {t : TypeId} {c : Nat} {xs : List Int} {l : List Row} (hk : H k = some (.own t c (.ints xs))) (hkt : H kt = some (.tok t false l)) :
    Ghost E H nx fun H' nx' => ∃ a, H' = upd (upd H k (.al a (.ints xs))) kt (.tok t false (l ++ [⟨a, c, xs, []⟩])) ∧ nx' = nx := fun ρ _ h =>
  ⟨_, nx, ρ, ⟨ρ k, rfl, rfl⟩, h.freeze (q := false) (r := ⟨ρ k, c, xs, []⟩) hk hkt rfl rfl, fun _ _ => rfl, Nat.le_refl _⟩
theorem Ghost.freezeP (k kt : Nat) {t : TypeId} {c : Nat} {ps : List (Int × Int)} {l : List Row} (hk : H k = some (.own t c (.i2 ps))) (hkt : H kt = some (.tok t true l)) :
    Ghost E H nx fun H' nx' => ∃ a, H' = upd (upd H k (.al a (.i2 ps))) kt (.tok t true (l ++ [⟨a, c, [], ps⟩])) ∧ nx' = nx := fun ρ _ h =>
  ⟨_, nx, ρ, ⟨ρ k, rfl, rfl⟩, h.freeze (q := true) (r := ⟨ρ k, c, [], ps⟩) hk hkt rfl rfl, fun _ _ => rfl, Nat.le_refl _⟩
theorem Ghost.kill (k : Nat) (hk : Nat.blt k nx = true) : Ghost E H nx fun H' nx' => H' = upd H k .dead ∧ nx' = nx := fun ρ _ h => ⟨_, nx, ρ, ⟨rfl, rfl⟩, h.kill (nblt hk), fun _ _ => rfl, Nat.le_refl _⟩
end
section
variable {E : Env} {ρ : Rho} {H : Nat → Option Blk} {nx : Nat} {w : World}
theorem HInv.view (h : HInv E ρ H nx w) {k o m : Nat} {b : Blk} {e e' : Elts} (hk : H k = some b) (hb : b.isOwn = false) (he : b.elts = some e) (hs : e.sub o m = some e') (hle : o + m ≤ e.len) (hr : e.rds = []) (hks : keysOf e.all = []) :
    HInv E (setR ρ nx ((ρ k).map fun p => (p.1, p.2 + o * e.sz))) (upd H nx (.al ((ρ k).map fun p => (p.1, p.2 + o * e.sz)) e')) (nx + 1) w := by
  obtain ⟨s1, s2, s3⟩ := Elts.sub_sound hs hle
  have hr' : e'.rds = [] := by
    cases c : e'.rds with
    | nil => rfl
    | cons x l => have := Elts.sub_rds hs x (by rw [c]; simp); rw [hr] at this; cases this
  have hk' : keysOf e'.all = [] := by
    apply List.eq_nil_iff_forall_not_mem.2
    intro q hq
    obtain ⟨s, hs, hq⟩ := List.mem_flatMap.1 hq
    rw [s3] at hs
    have : q ∈ keysOf e.all := List.mem_flatMap.2 ⟨s, List.mem_of_mem_drop (List.mem_of_mem_take hs), hq⟩
    rw [hks] at this; cases this
  have hro := (h.blk k b hk).asRo he
  have hkn := (h.key k b hk).1
  refine h.add (row := none) ⟨rfl, rfl, rfl, Nat.le_refl _, fun _ _ _ => rfl⟩ (fun _ e => by cases e) (fun _ _ _ _ _ _ e => by cases e) (fun _ _ _ _ _ e => by cases e) (fun p hp hl => ?_) (fun x hx => ?_) (fun k1 b1 p1 g _ _ _ hf => ?_) (fun _ _ _ e => by cases e) ⟨setR_same, ?_⟩ (fun q hq => ?_)
  · refine ⟨(fun e => nomatch e), (fun e => nomatch e), (fun k1 b1 p1 hk1 ho1 hp1 => ?_), (fun e => nomatch e), (fun e => nomatch e)⟩
    have hl' : 0 < e.len := by
      simp only [Blk.live, Bool.not_eq_true'] at hl
      have := Nat.ne_of_beq_eq_false hl
      omega
    have hbl : b.live = true := by
      cases b with
      | dead => cases he
      | ro e0 => cases he; simp only [Blk.live, Bool.not_eq_true']; exact nbeq_ne (by omega)
      | own t c e0 => rfl
      | al a e0 => cases he; simp only [Blk.live, Bool.not_eq_true']; exact nbeq_ne (by omega)
      | tok t q l => cases he
    cases hq : ρ k with
    | none => rw [hq] at hp; cases hp
    | some q =>
      rw [hq] at hp
      cases hp
      exact h.inj k1 k b1 b p1 q hk1 hk ho1 hbl (fun e => by subst e; rw [hk] at hk1; cases hk1; rw [hb] at ho1; cases ho1) hp1 hq
  · have : x ∈ e'.rds := hx
    rw [hr'] at this; cases this
  · obtain ⟨x, hx, _⟩ := hf
    have : x ∈ e'.rds := hx
    rw [hr'] at this; cases this
  · rw [setR_same]
    simp only [BlkOK] at hro
    cases hq : ρ k with
    | none => rw [hq] at hro; simp only [Option.map_none]; omega
    | some q =>
      rw [hq] at hro
      simp only [Option.map_some]
      refine ⟨fun h0 => hro.1 (by omega), fun j u hu => ?_⟩
      rw [s3, List.getElem?_take] at hu
      split at hu
      · rw [List.getElem?_drop] at hu
        have h1 := hro.2 _ u hu
        rw [Nat.add_assoc, h1]
        refine congrArg some (SV.conc_congr fun q hq => ?_)
        have : q ∈ keysOf e.all := List.mem_flatMap.2 ⟨u, List.mem_of_getElem? hu, hq⟩
        rw [hks] at this; cases this
      · cases hu
  · have : q ∈ keysOf e'.all := hq
    rw [hk'] at this; cases this
end
section
variable {P : Program} {E : Env} {N : Nat} {Q : Post} {fr : Nat → Option AV} {H : Nat → Option Blk} {nx : Nat} {l0 rest : List Oper} {code : Code}
theorem Inv.view {ρ : Rho} {a : Act} {w : World} (hI : Inv E N ρ ⟨fr, H, nx⟩ a w) {t k o m sz cp : Nat} {b : Blk} {e e' : Elts} (ht : fr t = some (.one (.sl k sz o m cp))) (hk : H k = some b) (hb : b.isOwn = false) (he : b.elts = some e) (hs : e.sub o m = some e') (hz : e.sz = sz) (hle : o + m ≤ e.len) (hr : e.rds = []) (hks : keysOf e.all = []) :
    ∃ a' ρ', Inv E N ρ' ⟨upd fr t (.one (.sl nx sz 0 m cp)), upd H nx (.al a' e'), nx + 1⟩ a w := by
  refine ⟨_, _, ?_, hI.h.view hk hb he hs hle hr hks⟩
  have hkn := (hI.h.key k b hk).1
  have hf := hI.f.mono (ρ' := setR ρ nx ((ρ k).map fun p => (p.1, p.2 + o * e.sz))) (nx' := nx + 1) (fun q hq => setR_ne (Nat.ne_of_lt hq)) (Nat.le_succ _)
  refine ⟨hf.defers, hf.size, fun s v hv => ?_, fun s v hv q hq => ?_⟩ <;> dsimp only at hv ⊢
  · by_cases c : s = t
    · subst c
      rw [upd_same] at hv
      cases hv
      rw [hI.f.val _ _ ht]
      simp only [AV.conc, SV.conc, adr, setR_same, Nat.zero_mul]
      cases ρ k with
      | none => rfl
      | some p => simp [hz]
    · rw [upd_ne c] at hv; exact hf.val s v hv
  · by_cases c : s = t
    · subst c
      rw [upd_same] at hv
      cases hv
      simp [AV.keys, SV.keys] at hq
      omega
    · rw [upd_ne c] at hv; exact hf.key s v hv q hq
theorem awpL_view (t : Nat) {k o m sz cp : Nat} {b : Blk} {e e' : Elts} (ht : fr t = some (.one (.sl k sz o m cp))) (hk : H k = some b) (hb : b.isOwn = false) (he : b.elts = some e) (hs : e.sub o m = some e') (hz : e.sz = sz) (hle : o + m ≤ e.len) (hr : e.rds = []) (hks : keysOf e.all = [])
    (h : ∀ a', awpL P E N l0 Q rest ⟨upd fr t (.one (.sl nx sz 0 m cp)), upd H nx (.al a' e'), nx + 1⟩) : awpL P E N l0 Q rest ⟨fr, H, nx⟩ := by
  unfold awpL at *
  intro ρ a w hI
  obtain ⟨a', ρ', hI'⟩ := hI.view ht hk hb he hs hz hle hr hks
  exact h a' ρ' a w hI'
theorem awp_view (t : Nat) {k o m sz cp : Nat} {b : Blk} {e e' : Elts} (ht : fr t = some (.one (.sl k sz o m cp))) (hk : H k = some b) (hb : b.isOwn = false) (he : b.elts = some e) (hs : e.sub o m = some e') (hz : e.sz = sz) (hle : o + m ≤ e.len) (hr : e.rds = []) (hks : keysOf e.all = [])
    (h : ∀ a', awp P E N code Q ⟨upd fr t (.one (.sl nx sz 0 m cp)), upd H nx (.al a' e'), nx + 1⟩) : awp P E N code Q ⟨fr, H, nx⟩ := by
  unfold awp at *
  intro ρ a w hI
  obtain ⟨a', ρ', hI'⟩ := hI.view ht hk hb he hs hz hle hr hks
  exact h a' ρ' a w hI'
end
theorem own_eqA {t : TypeId} {c : Nat} {e e' : Elts} {m : Nat → Nat} (h : e = e'.ren m) : some (Blk.own t c e) = some ((Blk.own t c e').ren m) := by subst h; rfl
theorem own_rowsA {t : TypeId} {c : Nat} {q f : Bool} {l l' : List Row} {m : Nat → Nat} (h : l = l') : some (Blk.own t c (.rows q f l)) = some ((Blk.own t c (.rows q f l')).ren m) := by subst h; rfl
theorem tok_eqA {t : TypeId} {q : Bool} {l l' : List Row} {m : Nat → Nat} (h : l = l') : some (Blk.tok t q l) = some ((Blk.tok t q l').ren m) := by subst h; rfl
end Go.Proofs.YtekpamojojfplaaGreat
namespace Go.Proofs.YtekpamojojfplaaGreat
open Go.RowKit
def cellsOf (l : List Row) : List Int := l.flatMap Row.xs
theorem cellsOf_take {l : List Row} {k : Nat} (h : k < l.length) : cellsOf (l.take (k + 1)) = cellsOf (l.take k) ++ l[k].xs := by
  rw [cellsOf, List.take_succ_eq_append_getElem h, List.flatMap_append]; simp [cellsOf]
theorem getD_row {l : List Row} {j : Nat} (h : j < l.length) : l[j]?.getD rowD = l[j] := by simp [h]
def FromR (n : Nat) (c : Int) (t : TypeId) (xs : List Int) (k : Nat) (v : AV) (Hout : List (Nat × Blk)) (n1 : Nat) : Prop := ∃ cap, xs.length ≤ cap ∧ v = .agg [.int n, .int c, .sl k 1 0 xs.length cap] ∧ Hout = [(k, .own t cap (.ints xs))] ∧ n1 = k + 1
theorem FromR.out {n : Nat} {c : Int} {t : TypeId} {xs : List Int} {k : Nat} : ∀ v Hout n1, FromR n c t xs k v Hout n1 → ∃ b, Hout = [(k, b)] ∧ n1 = k + 1 ∧ b.keys = [] := fun _ _ _ ⟨_, _, _, h2, h3⟩ => ⟨_, h2, h3, by simp [Blk.keys, Elts.keys, Elts.all, ints_keys]⟩
theorem cells_le {l : List Row} {k : Nat} : (cellsOf (l.take k)).length ≤ (cellsOf l).length := by
  have h : cellsOf l = cellsOf (l.take k) ++ cellsOf (l.drop k) := by
    conv => lhs; rw [← List.take_append_drop k l]
    simp only [cellsOf, List.flatMap_append]
  rw [h, List.length_append]; omega
theorem own_lit3R {t : TypeId} {c : Nat} {x y : Int} {k k' a b cp : Nat} {m : Nat → Nat} (h : a = b) (hk : k' = m k := by rfl) : some (Blk.own t c (.lit [.int x, .int y, .sl k' 1 0 a cp])) = some ((Blk.own t c (.lit [.int x, .int y, .sl k 1 0 b cp])).ren m) := by subst h hk; rfl
set_option maxHeartbeats 2000000 in
theorem d_fromRows (l : List Row) (c : Int) (cp : Nat) (hl : l.length ≤ 1000000) (hc : (cellsOf l).length ≤ 1000000) : Does Tryz.prog 97 [vS 1 1 0 l.length cp, vI c] [(1, .ro (.rows false true l))] 2 (FromR l.length c 3 (cellsOf l) 2) := by
 refine Does.intro TT Tryz.func97 rfl (by kernel_rfl) Zz Zz fun E hE => ?_
 ((repeat' (first | refine stx ?_ | (refine stq ?_ ?_ <;> (intro hc; ((try simp at hc) <;> try contradiction))) | fail)) <;> try (exfalso; omega))
 refine w_G hE (fun i : Nat × Nat => i.1 ≤ l.length ∧ (cellsOf (l.take i.1)).length ≤ i.2) (fun i => l.length - i.1)
  (fun i => [(4, .one (.ptr 2 3 0 0)), (5, .one (.ptr 4 3 0 0)), (13, vS 1 1 0 l.length cp), (14, vI l.length), (15, vI i.1)])
  (fun i => [(1, .ro (.rows false true l)), (2, .own 26 1 (.lit zeroM)), (3, .own 3 i.2 (.ints (cellsOf (l.take i.1)))), (4, .own 26 1 (.lit [.int l.length, .int c, .sl 3 1 0 (cellsOf (l.take i.1)).length i.2]))]) 5 [] (0, 0) ⟨Nat.zero_le _, Nat.zero_le _⟩ ⟨w_1, w_2, rfl⟩ ?_
 rintro ⟨i, cap⟩ ⟨hi, hcap⟩
 dsimp only at hi hcap
 by_cases hil : i < l.length
 ·have b1 := cells_le (l := l) (k := i + 1)
  have e1 := cellsOf_take hil
  have b2 : (cellsOf (l.take i)).length + (l[i]).xs.length ≤ 1000000 := by
   have := congrArg List.length e1
   simp only [List.length_append] at this
   omega
  have b3 := getD_row hil
  rw [← b3] at b2 e1
  ((repeat' (first | refine stx ?_ | (refine zqx ?_; intro cap hcap) | (refine stq ?_ ?_ <;> (intro hc; ((try simp at hc) <;> try contradiction))) | fail)) <;> try (exfalso; omega))
  have e2 : (cellsOf (l.take i)).length + (l.getD (0 + (i : Int).toNat) rowD).xs.length = (cellsOf (l.take (i + 1))).length := by rw [e1]; simp
  exact ⟨[(3, 6)], (i + 1, cap), ⟨by dsimp only; omega, by dsimp only at hcap ⊢; omega⟩, w_4, ⟨w_1, ⟨rfl, rfl, own_ints (by simp [e1]), own_lit3R e2, trivial⟩, rfl⟩⟩
 ·obtain rfl : i = l.length := by omega
  ((repeat' (first | refine stx ?_ | (refine stq ?_ ?_ <;> (intro hc; ((try simp at hc) <;> try contradiction))) | fail)) <;> try (exfalso; omega))
  rw [List.take_length] at hcap
  exact fin rfl w_3 [(2, 3)] (.agg [.int l.length, .int c, .sl 2 1 0 (cellsOf l).length cap]) [(2, .own 3 cap (.ints (cellsOf l)))] 3 ⟨cap, hcap, rfl, rfl, rfl⟩ (by simp [mp]; rfl) ⟨trivial, ⟨own_ints (by simp), trivial⟩, rfl⟩ rfl
def natsI (l : List Nat) : List Int := l.map Int.ofNat
theorem natsI_len {l : List Nat} : (natsI l).length = l.length := by simp [natsI]
def pickR (xs : List Int) (c : Nat) (is : List Nat) : List Int := is.flatMap fun i => (xs.drop (i * c)).take c
end Go.Proofs.YtekpamojojfplaaGreat
namespace Go.Proofs.YtekpamojojfplaaGreat
open Go.RowKit
def zoP (xs : List Int) (off n : Nat) : Prop := ∀ k, k < n → xs.getD (off + k) 0 = 0
instance {xs : List Int} {off n : Nat} : Decidable (zoP xs off n) := by unfold zoP; infer_instance
structure Split (a b t : Nat) (xs : List Int) : Prop where
  le : t ≤ a
  yes : ∀ i, i < t → ∃ k, k < b ∧ xs.getD (i * b + k) 0 ≠ 0
  no : ∀ i k, t ≤ i → i < a → k < b → xs.getD (i * b + k) 0 = 0
theorem Shape.split {a b t : Nat} {xs : List Int} {pv : Nat → Nat} (h : Shape a b b t xs pv) (ht : t ≤ a) : Split a b t xs := ⟨ht, fun i hi => ⟨pv i, (h.pos i hi).1, fun e => by have := (h.pos i hi).2; omega⟩, fun i k h1 h2 h3 => h.zero i k h1 h2 h3⟩
def basO (r c : Int) (xs : List Int) : Option (List Int × Nat) := if isM r c xs then (hTo r.toNat c.toNat (xs, idTo r.toNat r.toNat) c.toNat).map fun st => (st.1.1.take (st.2 * c.toNat), st.2) else none
def BasR (t : TypeId) (c : Int) (o : Option (List Int × Nat)) (k : Nat) (v : AV) (Hout : List (Nat × Blk)) (n1 : Nat) : Prop := match o with
  | none => v = .tup [.agg zeroM, .one (.bool false)] ∧ Hout = [] ∧ n1 = k
  | some s => ∃ cap, s.1.length ≤ cap ∧ v = .tup [.agg [.int s.2, .int c, .sl k 1 0 s.1.length cap], .one (.bool true)] ∧ Hout = [(k, .own t cap (.ints s.1))] ∧ n1 = k + 1
def FoundO (xs : List Int) (off n : Nat) (v : AV) (Hout : List (Nat × Blk)) (n1 : Nat) : Prop := ∃ j : Int, v = vI j ∧ Hout = [] ∧ n1 = 2 ∧ ((zoP xs off n ∧ j < 0) ∨ (¬ zoP xs off n ∧ 0 ≤ j))
def SplitR (ti : TypeId) (t : Nat) (v : AV) (Hout : List (Nat × Blk)) (n1 : Nat) : Prop := ∃ (c1 c2 : Nat) (zs : List Int), t ≤ c1 ∧ v = .tup [.one (.sl 2 1 0 t c1), .one (.sl 3 1 0 zs.length c2)] ∧ Hout = [(2, .own ti c1 (.ints (natsI (List.range t)))), (3, .own ti c2 (.ints zs))] ∧ n1 = 4
end Go.Proofs.YtekpamojojfplaaGreat
namespace Go.Proofs.YtekpamojojfplaaGreat
def pivF (xs : List Int) (off : Nat) : Nat → Nat
  | 0 => 0
  | n + 1 => if pivF xs off n < n then pivF xs off n else if xs.getD (off + n) 0 ≠ 0 then n else n + 1
structure Piv (b t : Nat) (ys : List Int) : Prop where
  len : ys.length = t * b
  num : ys.all numB = true
  yes : ∀ i, i < t → pivF ys (i * b) b < b ∧ 0 < ys.getD (i * b + pivF ys (i * b) b) 0 ∧ ∀ k, k < pivF ys (i * b) b → ys.getD (i * b + k) 0 = 0
  mono : ∀ i i', i < i' → i' < t → pivF ys (i * b) b < pivF ys (i' * b) b
def nrOK (ys out : List Int) (b i : Nat) (q : Int) : Nat → Bool
  | 0 => true
  | k + 1 => nrOK ys out b i q k && (numB (ys.getD (i * b + k) 0 * q) && numB (addF ys b i q k (out.getD (0 + k) 0)))
def nrX (ys out : List Int) (b i : Nat) (q : Int) : List Int := updTo out 0 (addF ys b i q) b
def nrQ (ys out : List Int) (b i : Nat) : Int := -(out.getD (pivF ys (i * b) b) 0 / ys.getD (i * b + pivF ys (i * b) b) 0)
def nrAt (ys : List Int) (b i : Nat) (out : List Int) : Option (List Int) := if nrOK ys out b i (nrQ ys out b i) b = true then some (nrX ys out b i (nrQ ys out b i)) else none
def nrTo (ys : List Int) (b : Nat) (out : List Int) : Nat → Option (List Int)
  | 0 => some out
  | n + 1 => (nrTo ys b out n).bind (nrAt ys b n)
def normO (r c : Int) (xs vs : List Int) : Option (List Int) := match basO r c xs with
  | none => none
  | some s => if (vs.length : Int) = c ∧ vs.all numB = true then nrTo s.1 c.toNat vs s.2 else none
end Go.Proofs.YtekpamojojfplaaGreat
namespace Go.Proofs.YtekpamojojfplaaGreat
def comb (ys : List Int) (b : Nat) (q : Nat → Int) (k : Nat) : Nat → Int
  | 0 => 0
  | t + 1 => comb ys b q k t + q t * ys.getD (t * b + k) 0
def InL (ys : List Int) (b t : Nat) (u v : List Int) : Prop := ∃ q : Nat → Int, ∀ k, k < b → u.getD k 0 = v.getD k 0 + comb ys b q k t
theorem comb_add {ys : List Int} {b k : Nat} {q r : Nat → Int} : ∀ t, comb ys b (fun i => q i + r i) k t = comb ys b q k t + comb ys b r k t
  | 0 => rfl
  | t + 1 => by rw [comb, comb, comb, comb_add t, Int.add_mul]; omega
theorem comb_neg {ys : List Int} {b k : Nat} {q : Nat → Int} : ∀ t, comb ys b (fun i => -q i) k t = -comb ys b q k t
  | 0 => rfl
  | t + 1 => by rw [comb, comb, comb_neg t, Int.neg_mul]; omega
theorem comb_zero {ys : List Int} {b k : Nat} : ∀ t, comb ys b (fun _ => 0) k t = 0
  | 0 => rfl
  | t + 1 => by rw [comb, comb_zero t, Int.zero_mul]; rfl
theorem InL.refl {ys : List Int} {b t : Nat} (u : List Int) : InL ys b t u u := ⟨fun _ => 0, fun k _ => by rw [comb_zero]; omega⟩
theorem InL.symm {ys : List Int} {b t : Nat} {u v : List Int} (h : InL ys b t u v) : InL ys b t v u := by
  obtain ⟨q, hq⟩ := h
  exact ⟨fun i => -q i, fun k hk => by rw [comb_neg, hq k hk]; omega⟩
theorem InL.trans {ys : List Int} {b t : Nat} {u v w : List Int} (h : InL ys b t u v) (h' : InL ys b t v w) : InL ys b t u w := by
  obtain ⟨q, hq⟩ := h
  obtain ⟨r, hr⟩ := h'
  exact ⟨fun i => q i + r i, fun k hk => by rw [comb_add, hq k hk, hr k hk]; omega⟩
theorem comb_one {ys : List Int} {b k i : Nat} {c : Int} : ∀ {t : Nat}, comb ys b (fun j => if j = i then c else 0) k t = if i < t then c * ys.getD (i * b + k) 0 else 0
  | 0 => by simp [comb]
  | t + 1 => by
    rw [comb, comb_one (t := t)]
    by_cases h : t = i
    · subst h
      simp
    · by_cases h2 : i < t
      · rw [if_pos h2, if_neg h, if_pos (by omega)]; omega
      · rw [if_neg h2, if_neg h, if_neg (by omega)]; omega
def Res (ys : List Int) (b n : Nat) (u : List Int) : Prop := ∀ i, i < n → 0 ≤ u.getD (pivF ys (i * b) b) 0 ∧ u.getD (pivF ys (i * b) b) 0 < ys.getD (i * b + pivF ys (i * b) b) 0
theorem Piv.left {b t i j : Nat} {ys : List Int} (h : Piv b t ys) (hij : i < j) (hj : j < t) : ys.getD (j * b + pivF ys (i * b) b) 0 = 0 := (h.yes j hj).2.2 _ (h.mono i j hij hj)
end Go.Proofs.YtekpamojojfplaaGreat
