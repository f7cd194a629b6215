/- The document's automaton: what a call turns. -/
import Derived.Test.YtlfcmedhadfheaaRgC
namespace Go.Proofs.Ytlfcmedhadfheaa
open Go.RowKit
set_option linter.unusedVariables false
set_option linter.unusedSimpArgs false
/-- It lies as the state says, in blocks of its own or new ones. -/
def UnderP (u : Rf) (S : AS) (ub lb : Nat → Nat) (w : World) (S' : AS) (w' : World) : Prop :=
  ∃ ub' lb', R27At w' u S' ub' lb' ∧ Only (Own27 u S ub lb) w w' ∧ ∀ b, Own27 u S' ub' lb' b → Own27 u S ub lb b ∨ w.heap.size ≤ b
theorem UnderP.of_below {u : Rf} {S : AS} {ub lb : Nat → Nat} {w w' : World} (h : R27At w u S ub lb) (hb : Below w.heap.size w w') : UnderP u S ub lb w S w' :=
  ⟨ub, lb, h.below hb, Only.of_below _ hb, fun b hb => .inl hb⟩
theorem UnderP.below {u : Rf} {S S' : AS} {ub lb : Nat → Nat} {w w1 w2 : World} (h : UnderP u S ub lb w S' w1) (hb : Below w1.heap.size w1 w2) : UnderP u S ub lb w S' w2 := by
  obtain ⟨u1, l1, a, b, c⟩ := h
  exact ⟨u1, l1, a.below hb, b.trans (Only.of_below _ hb), c⟩
theorem UnderP.trans {u : Rf} {S S1 S2 : AS} {ub lb : Nat → Nat} {w w1 w2 : World} (h : UnderP u S ub lb w S1 w1) (k : ∀ u1 l1, R27At w1 u S1 u1 l1 → UnderP u S1 u1 l1 w1 S2 w2) : UnderP u S ub lb w S2 w2 := by
  obtain ⟨u1, l1, a, b, c⟩ := h
  obtain ⟨u2, l2, a2, b2, c2⟩ := k u1 l1 a
  refine ⟨u2, l2, a2, ⟨b2.os.trans b.os, b2.tape.trans b.tape, b2.output.trans b.output, Nat.le_trans b.size b2.size, fun i hi hm => ?_⟩, fun x hx => ?_⟩
  · refine (b2.block i (Nat.lt_of_lt_of_le hi b.size) (fun h1 => ?_)).trans (b.block i hi hm)
    rcases c i h1 with h2 | h2
    · exact hm h2
    · omega
  · rcases c2 x hx with h2 | h2
    · exact c x h2
    · exact .inr (Nat.le_trans b.size h2)
theorem setR_C (S : AS) (n : Nat) (r : RS) : (S.setR n r).C = S.C := rfl
/-- One route is turned. -/
theorem UnderP.upd {w w' : World} {u : Rf} {S : AS} {ub lb : Nat → Nat} (h : R27At w u S ub lb) {n : Nat} (hn : n < u.T.rts.length) {r : RS} {b1 b2 : Nat}
    (ho : Only (fun b => b = u.rb ∨ (S.R n).ph = 3 ∧ (b = ub n ∨ b = lb n)) w w')
    (hrow : RowAt w' u.rb 61 (u.T.rts.length * 4) (r27V u.T (S.setR n r).R (fset ub n b1) (fset lb n b2))) (hnf : Nf r (u.T.rts.getD n rt0).tr.length)
    (hl : r.ph = 3 → RowAt w' b1 4 (u.T.rts.getD n rt0).tr.length (bitsV r.us) ∧ RowAt w' b2 4 (u.T.rts.getD n rt0).tr.length (bitsV r.rl) ∧ RoffA u b1 b2 ∧ ∀ m, m < u.T.rts.length → m ≠ n → (S.R m).ph = 3 → RoffB b1 b2 (ub m) (lb m))
    (hb : r.ph = 3 → ((S.R n).ph = 3 ∧ b1 = ub n ∧ b2 = lb n) ∨ (w.heap.size ≤ b1 ∧ w.heap.size ≤ b2)) : UnderP u S ub lb w (S.setR n r) w' := by
  refine ⟨fset ub n b1, fset lb n b2, h.upd hn ho hrow hnf hl, ho.mono (fun i _ hi => ?_), fun b hb' => ?_⟩
  · rcases hi with hi | ⟨h3, hi⟩
    · exact .inl hi
    · exact .inr (.inr ⟨n, hn, h3, hi⟩)
  · rcases hb' with e | e | ⟨m, hm, h3, e⟩
    · exact .inl (.inl e)
    · exact .inl (.inr (.inl e))
    · by_cases hmn : m = n
      · subst hmn
        rw [show (S.setR m r).R m = r from if_pos rfl] at h3
        rw [show fset ub m b1 m = b1 from if_pos rfl, show fset lb m b2 m = b2 from if_pos rfl] at e
        rcases hb h3 with ⟨g3, e1, e2⟩ | ⟨g1, g2⟩
        · rw [e1, e2] at e; exact .inl (.inr (.inr ⟨m, hm, g3, e⟩))
        · rcases e with e | e
          · exact .inr (by omega)
          · exact .inr (by omega)
      · rw [show (S.setR n r).R m = S.R m from if_neg hmn] at h3
        rw [show fset ub n b1 m = ub m from if_neg hmn, show fset lb n b2 m = lb m from if_neg hmn] at e
        exact .inl (.inr (.inr ⟨m, hm, h3, e⟩))
/-- A route's four cells are stored. -/
theorem UnderP.store4 {w : World} {u : Rf} {S : AS} {ub lb : Nat → Nat} (h : R27At w u S ub lb) {n : Nat} (hn : n < u.T.rts.length) (p t : Nat) (hp : p ≠ 3) (h0 : p = 0 → t = 0) (h1 : p = 1 → t = 0) (hp4 : p < 4) (ht : t < 65536) :
    UnderP u S ub lb w (S.setR n ⟨p, t, 0, 0⟩) ((((w.setCell ⟨u.rb, n * 4, none⟩ (.int .i64 (p : Int))).setCell ⟨u.rb, n * 4 + 1, none⟩ (.int .i64 (t : Int))).setCell ⟨u.rb, n * 4 + 2, none⟩ (.slice none 0 0)).setCell ⟨u.rb, n * 4 + 3, none⟩ (.slice none 0 0)) := by
  have hrow := (((h.rs.set (i := n * 4) (.int .i64 (p : Int))).set (i := n * 4 + 1) (.int .i64 (t : Int))).set (i := n * 4 + 2) (.slice none 0 0)).set (i := n * 4 + 3) (.slice none 0 0)
  refine UnderP.upd h hn (b1 := 0) (b2 := 0) ?_ (r27_row (R := S.R) (ub := ub) (lb := lb) (r := ⟨p, t, 0, 0⟩) hrow (fun q hq hne => ?_) ?_ ?_ ?_ ?_) ⟨fun e => ?_, fun e => h1 e, fun _ => ⟨rfl, rfl⟩, fun e => absurd e hp, Nat.pow_pos (by omega), Nat.pow_pos (by omega), hp4, ht⟩ (fun e => absurd e hp) (fun e => absurd e hp)
  · exact ((((Only.refl _ w).set _ _ (.inr (.inl rfl))).set _ _ (.inr (.inl rfl))).set _ _ (.inr (.inl rfl))).set _ _ (.inr (.inl rfl))
  · show (if q = n * 4 + 3 then _ else if q = n * 4 + 2 then _ else if q = n * 4 + 1 then _ else if q = n * 4 then _ else _) = _
    rw [if_neg (by omega), if_neg (by omega), if_neg (by omega), if_neg (by omega)]
  · show (if n * 4 = n * 4 + 3 then _ else if n * 4 = n * 4 + 2 then _ else if n * 4 = n * 4 + 1 then _ else if n * 4 = n * 4 then _ else _) = _
    rw [if_neg (by omega), if_neg (by omega), if_neg (by omega), if_pos rfl]
  · show (if n * 4 + 1 = n * 4 + 3 then _ else if n * 4 + 1 = n * 4 + 2 then _ else if n * 4 + 1 = n * 4 + 1 then _ else _) = _
    rw [if_neg (by omega), if_neg (by omega), if_pos rfl]
  · show (if n * 4 + 2 = n * 4 + 3 then _ else if n * 4 + 2 = n * 4 + 2 then _ else _) = _
    rw [if_neg (by omega), if_pos rfl, if_neg hp]
  · show (if n * 4 + 3 = n * 4 + 3 then _ else _) = _
    rw [if_pos rfl, if_neg hp]
  · have e : p = 0 := e
    subst e
    rw [h0 rfl]; rfl
theorem Nf_enter (L : Nat) : Nf ⟨3, 0, 0, 0⟩ L := ⟨fun e => absurd e (by decide), fun e => absurd e (by decide), fun e => absurd rfl e, fun _ => rfl, Nat.pow_pos (by omega), Nat.pow_pos (by omega), by show (3 : Nat) < 4; omega, by show 0 < 65536; omega⟩
/-- A train comes. -/
theorem enter_at {w : World} {u : Rf} {S : AS} {ub lb : Nat → Nat} (h : R27At w u S ub lb) {n : Nat} (hn : n < u.T.rts.length) (h3 : (S.R n).ph ≠ 3) (hL : (u.T.rts.getD n rt0).tr.length ≤ 1000) :
    Calls Try.prog 66 #[.pointer (some ⟨u.rb, n * 4, none⟩), .int .i64 ((u.T.rts.getD n rt0).tr.length : Int)] w fun e w' => e = .returned (.tuple #[]) ∧ UnderP u S ub lb w (S.setR n ⟨3, 0, 0, 0⟩) w' := by
  refine (renter_any u.rb n _ _ _ w h.rs (by omega) hL).mono ?_
  rintro e w' ⟨he, ho, b1, b2, g1, g2, hne, r1, r2, hrow⟩
  refine ⟨he, UnderP.upd h hn (b1 := b1) (b2 := b2) (ho.mono (fun i _ hi => .inl hi)) (r27_row (R := S.R) (ub := ub) (lb := lb) (r := ⟨3, 0, 0, 0⟩) hrow (fun q hq hq4 => ?_) ?_ ?_ ?_ ?_) (Nf_enter _) (fun _ => ⟨r1, r2, ?_, fun m hm hmn hm3 => ?_⟩) (fun _ => .inr ⟨g1, g2⟩)⟩
  · rw [if_neg (by omega), if_neg (by omega), if_neg (by omega), if_neg (by omega)]
  · rw [if_neg (by omega), if_neg (by omega), if_neg (by omega), if_pos rfl]; rfl
  · rw [if_neg (by omega), if_neg (by omega), if_pos rfl]; rfl
  · rw [if_neg (by omega), if_pos rfl]; rfl
  · rw [if_pos rfl]; rfl
  · have a1 := heap_lt h.obj; have a2 := h.rs.lt; have a3 := h.cs.lt; have := h.gB; 
    exact ⟨hne, by omega, by omega, by omega, by omega, by omega, by omega, by omega, by omega⟩
  · have a1 := (h.us m hm hm3).1.lt; have a2 := (h.us m hm hm3).2.lt
    exact ⟨by omega, by omega, by omega, by omega⟩
theorem trainR_nf {f : FD} {l : List Int} {r : RS} {L : Nat} (hL : L = l.length) (h : Nf r L) (h3 : r.ph = 3) : Nf (trainR f l r) L := by
  subst hL
  unfold trainR
  split
  · exact ⟨fun _ => rfl, fun e => absurd e (by decide), fun _ => ⟨rfl, rfl⟩, fun e => absurd e (by decide), Nat.pow_pos (by omega), Nat.pow_pos (by omega), by show (0 : Nat) < 4; omega, by show 0 < 65536; omega⟩
  · refine ⟨fun e => ?_, fun e => ?_, fun e => absurd h3 e, fun _ => h.z3 h3, usedN_lt2 f l h.us _ (Nat.le_refl _), relN_lt2 f l h.rl _ (Nat.le_refl _), h.ph, h.tm⟩
    · have e : r.ph = 0 := e
      rw [h3] at e; cases e
    · have e : r.ph = 1 := e
      rw [h3] at e; cases e
/-- A train goes on. -/
theorem train_at {f : FD} {w : World} {u : Rf} {S : AS} {ub lb : Nat → Nat} (h : R27At w u S ub lb) (hf : f.Ok) (hT : TOk u.T) {n : Nat} (hn : n < u.T.rts.length) (h3 : (S.R n).ph = 3) (vl : Value) (hl : IntsAt u.w0 vl (u.T.rts.getD n rt0).tr) :
    Calls Try.prog 67 #[.pointer (some ⟨u.rb, n * 4, none⟩), vl, .agg #[.int .u32 (f.cl : Int), .int .u32 (f.no : Int), .int .u32 (f.re : Int), .int .u32 (f.ak : Int), .int .u32 (f.ca : Int), .int .u32 (f.rq : Int)]] w fun e w' => e = .returned (.tuple #[]) ∧ UnderP u S ub lb w (S.setR n (trainR f (u.T.rts.getD n rt0).tr (S.R n))) w' := by
  have hlive := h.us n hn h3
  have hoff := h.du n hn h3
  have hnf := h.nf n hn
  have hB := h.B0
  have hv2 : r27V u.T S.R ub lb (n * 4 + 2) = .slice (some ⟨ub n, 0, none⟩) (u.T.rts.getD n rt0).tr.length (u.T.rts.getD n rt0).tr.length := by rw [r27V_2]; unfold ruV; rw [if_pos h3]
  have hv3 : r27V u.T S.R ub lb (n * 4 + 3) = .slice (some ⟨lb n, 0, none⟩) (u.T.rts.getD n rt0).tr.length (u.T.rts.getD n rt0).tr.length := by rw [r27V_3]; unfold ruV; rw [if_pos h3]
  refine (rtrain_any f _ _ (u.T.rts.length * 4) n _ (S.R n).us (S.R n).rl u.rb (ub n) (lb n) vl u.w0 w hl rfl (hT.tl n hn).2 (fun i hi => ⟨(hT.tr n hn i hi).1, by have := (hT.tr n hn i hi).2; omega⟩) hf h.rs (by omega) hv2 hv3 hlive.1 hlive.2 (Ne.symm hoff.r1) (Ne.symm hoff.r2) hoff.ne (by have := h.rB; omega) (by have := hoff.B1; omega) (by have := hoff.B2; omega) h.bel hnf.us hnf.rl).mono ?_
  rintro e w' ⟨he, ho, hy, hno⟩
  have ho2 : Only (fun b => b = u.rb ∨ (S.R n).ph = 3 ∧ (b = ub n ∨ b = lb n)) w w' := ho.mono (fun i _ hi => by
    rcases hi with hi | hi | hi
    · exact .inl hi
    · exact .inr ⟨h3, .inl hi⟩
    · exact .inr ⟨h3, .inr hi⟩)
  refine ⟨he, ?_⟩
  have hnf2 := trainR_nf (f := f) rfl hnf h3
  by_cases hfull : relN f (u.T.rts.getD n rt0).tr (usedN f (u.T.rts.getD n rt0).tr (S.R n).us (u.T.rts.getD n rt0).tr.length) (S.R n).rl (u.T.rts.getD n rt0).tr.length = 2 ^ (u.T.rts.getD n rt0).tr.length - 1
  · have et : trainR f (u.T.rts.getD n rt0).tr (S.R n) = rs0 := if_pos hfull
    rw [et] at hnf2 ⊢
    refine UnderP.upd h hn (b1 := 0) (b2 := 0) ho2 (r27_row (R := S.R) (ub := ub) (lb := lb) (r := rs0) (hy hfull) (fun q hq hq4 => ?_) ?_ ?_ ?_ ?_) hnf2 (fun e => absurd e (by decide)) (fun e => absurd e (by decide))
    · rw [if_neg (by omega), if_neg (by omega), if_neg (by omega), if_neg (by omega)]
    · rw [if_pos rfl]; rfl
    · rw [if_neg (by omega), if_pos rfl]; rfl
    · rw [if_neg (by omega), if_neg (by omega), if_pos rfl]; rfl
    · rw [if_neg (by omega), if_neg (by omega), if_neg (by omega), if_pos rfl]; rfl
  · have et : trainR f (u.T.rts.getD n rt0).tr (S.R n) = { S.R n with us := usedN f (u.T.rts.getD n rt0).tr (S.R n).us (u.T.rts.getD n rt0).tr.length, rl := relN f (u.T.rts.getD n rt0).tr (usedN f (u.T.rts.getD n rt0).tr (S.R n).us (u.T.rts.getD n rt0).tr.length) (S.R n).rl (u.T.rts.getD n rt0).tr.length } := if_neg hfull
    obtain ⟨k1, k2, k3⟩ := hno hfull
    rw [et] at hnf2 ⊢
    refine UnderP.upd h hn (b1 := ub n) (b2 := lb n) ho2 (r27_row (R := S.R) (ub := ub) (lb := lb) k1 (fun q hq hq4 => rfl) ?_ ?_ ?_ ?_) hnf2 (fun _ => ⟨k2, k3, hoff, fun m hm hmn hm3 => h.dd n m hn hm (Ne.symm hmn) h3 hm3⟩) (fun _ => .inl ⟨h3, rfl, rfl⟩)
    · exact r27V_0 _ _ _ _ _
    · exact r27V_1 _ _ _ _ _
    · exact r27V_2 _ _ _ _ _
    · exact r27V_3 _ _ _ _ _
end Go.Proofs.Ytlfcmedhadfheaa
