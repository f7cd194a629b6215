/- The field and the document's, side by side. -/
import Derived.Test.YtdelcndaogjngaaFieRef9
import Derived.Test.YtdelcndaogjngaaFieFrm
namespace Go.Proofs.Ytdelcndaogjngaa
open Go.RowKit
set_option linter.unusedVariables false
theorem ownsRow_same {w w' : World} {B : Nat} {e : TypeId} {size : Nat} {v : Value} {n : Nat} {xs : List Value} (h : w.ownsRow B e size v n xs) (hs : ∀ g, v.ownBlock = some g → w'.heap[g]? = w.heap[g]?) : w'.ownsRow B e size v n xs := by
  refine ⟨h.1, ?_⟩
  rcases h.2 with h | ⟨g, c, cur, rfl, h1, h2, h3⟩
  · exact .inl h
  · exact .inr ⟨g, c, cur, rfl, h1, (hs g rfl).trans h2, h3⟩
theorem RefAt.only {w w' : World} {R : RS} {M : Nat → Prop} (h : RefAt w R) (ho : Only M w w') (h1 : ¬ M R.r) (h2 : ¬ M R.bi) (h3 : ¬ M R.bo) (h4 : R.puts ≠ [] → ¬ M R.bp) (h5 : 0 < R.nS → ∀ b off, R.sa = some ⟨b, off, none⟩ → ¬ M b) : RefAt w' R := by
  have l2 := h.hi; have l7 := ho.size
  refine ⟨(ho.block _ l2.1 h1).trans h.obj, h.nI, h.nS, h.rd, h.wt, h.len, h.lt, h.safe.only0 ho (fun hz b off e _ => h5 hz b off e), h.ins.only ho (fun _ => h2), h.outs.only ho (fun _ => h3), ownsRow_same h.puts (fun g hg => ?_), h.bp, h.lo, ⟨by omega, by omega, by omega⟩, h.ne, fun hp => ?_, h.sab⟩
  · obtain ⟨e, hp⟩ := h.bp g hg
    subst e
    exact ho.block _ (h.np hp).2.1 (h4 hp)
  · have := h.np hp
    exact ⟨this.1, by omega, this.2.2⟩
structure Sp (w0 w : World) (f : FS) (R : RS) (nI len rd : Nat) (wt : Int) (a : Option Addr) (S : Nat → Nat) : Prop where
  cF : FieldAt w f
  cR : RefAt w R
  fI : f.nI = nI
  fS : f.nS = len
  frd : f.rd = rd
  fwr : f.wr = wt
  fsafe : f.safe = S
  rI : R.nI = nI
  rS : R.nS = len
  rrd : R.rd = rd
  rwt : R.wt = wt
  rsafe : R.safe = S
  rsa : R.sa = a
  sa : 0 < len → ∀ b off, a = some ⟨b, off, none⟩ → b < w0.heap.size
  lo : w0.heap.size ≤ f.lo ∧ w0.heap.size ≤ R.lo
  apr : ¬ f.M R.r
  api : ¬ f.M R.bi
  apo : ¬ f.M R.bo
  app : R.puts ≠ [] → ¬ f.M R.bp
  bs : 0 < len → f.bs < f.lo ∧ f.bs ≠ R.r ∧ f.bs ≠ R.bo ∧ (R.puts ≠ [] → f.bs ≠ R.bp)
  B : Below w0.heap.size w0 w
structure Ag (len : Nat) (S : Nat → Nat) (f : FS) (R : RS) (k : Nat) : Prop where
  ins : f.ins = R.ins
  outs : ∀ i, i < len → f.outs i = R.outs i
  done : ∀ j, f.done j = replay S R.puts j
  n : R.puts.length ≤ k
section
variable {w0 w w' : World} {f : FS} {R : RS} {nI len rd : Nat} {wt : Int} {a : Option Addr} {S : Nat → Nat}
theorem Sp.other {M : Nat → Prop} (h : Sp w0 w f R nI len rd wt a S) (ho : Only M w w') (hf : ∀ b, f.M b → ¬ M b) (hs : 0 < len → ¬ M f.bs) (hr : ¬ M R.r) (hi : ¬ M R.bi) (hoo : ¬ M R.bo) (hp : R.puts ≠ [] → ¬ M R.bp) (h0 : ∀ b, b < w0.heap.size → ¬ M b) : Sp w0 w' f R nI len rd wt a S :=
  ⟨h.cF.only ho hf (by rw [h.fS]; exact hs), h.cR.only ho hr hi hoo hp (by rw [h.rS, h.rsa]; exact fun hz b off e => h0 b (h.sa hz b off e)), h.fI, h.fS, h.frd, h.fwr, h.fsafe, h.rI, h.rS, h.rrd, h.rwt, h.rsafe, h.rsa, h.sa, h.lo, h.apr, h.api, h.apo, h.app, h.bs, h.B.trans (ho.below h.B.size h0)⟩
theorem Sp.same (h : Sp w0 w f R nI len rd wt a S) (hb : Below w.heap.size w w') : Sp w0 w' f R nI len rd wt a S :=
  h.other (M := fun _ => False) (Only.of_below _ hb) (fun _ _ h => h) (fun _ h => h) (fun h => h) (fun h => h) (fun h => h) (fun _ h => h) (fun _ _ h => h)
theorem Sp.fs {f' : FS} (h : Sp w0 w f R nI len rd wt a S) (hf : FieldAt w' f') (ho : Only f.M w w') (hl : Like f f') : Sp w0 w' f' R nI len rd wt a S := by
  have e : f'.M = f.M := by funext b; unfold FS.M; rw [hl.lo, hl.hi]
  refine ⟨hf, h.cR.only ho h.apr h.api h.apo h.app (fun hz b off e hm => ?_), hl.nI.trans h.fI, hl.nS.trans h.fS, hl.rd.trans h.frd, hl.wr.trans h.fwr, hl.safe.trans h.fsafe, h.rI, h.rS, h.rrd, h.rwt, h.rsafe, h.rsa, h.sa, by rw [hl.lo]; exact h.lo, by rw [e]; exact h.apr, by rw [e]; exact h.api, by rw [e]; exact h.apo, by rw [e]; exact h.app, by rw [hl.bs, hl.lo]; exact h.bs, h.B.trans (ho.below h.B.size fun i hi hm => ?_)⟩
  · rw [h.rS] at hz
    rw [h.rsa] at e
    have h1 := h.sa hz b off e; have h2 := h.lo.1; have h3 := hm.1; omega
  · have h2 := h.lo.1; have h3 := hm.1; omega
theorem Sp.rs {R' : RS} (h : Sp w0 w f R nI len rd wt a S) (hr : RefAt w' R') (ho : Only R.M w w') (hl : LikeR w.heap.size R R') : Sp w0 w' f R' nI len rd wt a S := by
  have hhi := h.cF.hi
  have hnew : ∀ b, w.heap.size ≤ b → ¬ f.M b := fun b hb hm => by have h1 := hm.2; omega
  have hM : ∀ b, R.M b → ¬ f.M b := fun b hb => by
    rcases hb with rfl | ⟨_, rfl⟩ | ⟨hp, rfl⟩
    · exact h.apr
    · exact h.apo
    · exact h.app hp
  have hg := h.cF.ok.g
  have hlt := hr.np
  refine ⟨h.cF.only ho (fun b hb hm => hM b hm hb) (fun hz hm => ?_), hr, h.fI, h.fS, h.frd, h.fwr, h.fsafe, hl.nI.trans h.rI, hl.nS.trans h.rS, hl.rd.trans h.rrd, hl.wt.trans h.rwt, hl.safe.trans h.rsafe, hl.sa.trans h.rsa, h.sa, by rw [hl.lo]; exact h.lo, by rw [hl.r]; exact h.apr, ?_, ?_, fun hp => ?_, fun hz => ?_, h.B.trans (ho.below h.B.size fun i hi hm => ?_)⟩
  · rw [h.fS] at hz
    have hb := h.bs hz
    rcases hm with h1 | ⟨_, h1⟩ | ⟨hp, h1⟩
    · exact hb.2.1 h1
    · exact hb.2.2.1 h1
    · exact hb.2.2.2 hp h1
  · rcases hl.bi with e | e
    · rw [e]; exact h.api
    · exact hnew _ e
  · rcases hl.bo with e | e
    · rw [e]; exact h.apo
    · exact hnew _ e
  · rcases hl.bp hp with ⟨h1, e⟩ | e
    · rw [e]; exact h.app h1
    · exact hnew _ e
  · have hb := h.bs hz
    refine ⟨hb.1, by rw [hl.r]; exact hb.2.1, ?_, fun hp => ?_⟩
    · rcases hl.bo with e | e
      · rw [e]; exact hb.2.2.1
      · omega
    · rcases hl.bp hp with ⟨h1, e⟩ | e
      · rw [e]; exact hb.2.2.2 h1
      · omega
  · have h2 := h.lo.2; have h3 := h.cR.lo
    rcases hm with h1 | ⟨_, h1⟩ | ⟨hp, h1⟩
    · omega
    · omega
    · have := h.cR.np hp; omega
theorem Sp.cp (h : Sp w0 w f R nI len rd wt a S) {hi g bi bo bp bh : Nat} {vi vo vp vh : Value} (hf : FieldAt w' (f.to w.heap.size hi g bi bo bp bh vi vo vp vh)) (hb : Below w.heap.size w w') : Sp w0 w' (f.to w.heap.size hi g bi bo bp bh vi vo vp vh) R nI len rd wt a S := by
  have h1 := h.same hb
  have hg := h.cF.ok.g; have hhi := h.cF.hi
  have no : ∀ b, b < w.heap.size → ¬ (f.to w.heap.size hi g bi bo bp bh vi vo vp vh).M b := fun b hb hm => by have h2 : w.heap.size ≤ b := hm.1; omega
  refine ⟨hf, h1.cR, h.fI, h.fS, h.frd, h.fwr, h.fsafe, h.rI, h.rS, h.rrd, h.rwt, h.rsafe, h.rsa, h.sa, ⟨h.B.size, h.lo.2⟩, no _ h.cR.hi.1, no _ h.cR.hi.2.1, no _ h.cR.hi.2.2, fun hp => no _ (h.cR.np hp).2.1, fun hz => ?_, h1.B⟩
  have hb := h.bs hz
  exact ⟨by show f.bs < w.heap.size; omega, hb.2⟩
/-- What the old one does turns nothing of the new one. -/
theorem Sp.old {f1 f2 : FS} (h : Sp w0 w f2 R nI len rd wt a S) (ho : Only f1.M w w') (hlo : w0.heap.size ≤ f1.lo) (h12 : f1.hi ≤ f2.lo) (hbs : 0 < len → f2.bs < f1.lo) (hr : ¬ f1.M R.r) (hi : ¬ f1.M R.bi) (hoo : ¬ f1.M R.bo) (hp : R.puts ≠ [] → ¬ f1.M R.bp) : Sp w0 w' f2 R nI len rd wt a S :=
  h.other ho (fun b hb hm => by have h1 := hb.1; have h2 := hm.2; omega) (fun hz hm => by have h1 := hbs hz; have h2 := hm.1; omega) hr hi hoo hp (fun b hb hm => by have h1 := hm.1; omega)
/-- Any other block that is there already is none of theirs. -/
theorem Sp.f_new (h : Sp w0 w f R nI len rd wt a S) {b : Nat} (hb : w.heap.size ≤ b) : ¬ f.M b := fun hm => by have h1 := hm.2; have h2 := h.cF.hi; omega
theorem Sp.r_new (h : Sp w0 w f R nI len rd wt a S) {b : Nat} (hb : w.heap.size ≤ b) : ¬ R.M b := fun hm => by
  have h2 := h.cR.hi
  rcases hm with h1 | ⟨_, h1⟩ | ⟨hp, h1⟩
  · omega
  · omega
  · have := (h.cR.np hp).2.1; omega
theorem Ag.latch {k : Nat} (h : Ag len S f R k) {R' : RS} {X : Nat → Nat} (h1 : R'.ins = X) (h2 : R'.outs = R.outs) (h3 : R'.puts = []) (hS : f.safe = S) : Ag len S (f.latch X) R' (k + 1) :=
  ⟨h1.symm, fun i hi => by rw [h2]; exact h.outs i hi, fun j => by rw [h3, done_latch]; show replay f.safe [] j = _; rw [hS], by rw [h3]; exact Nat.zero_le _⟩
theorem Ag.up {k : Nat} (h : Ag len S f R k) : Ag len S f R (k + 1) := ⟨h.ins, h.outs, h.done, by have := h.n; omega⟩
theorem Ag.outP {k : Nat} (h : Ag len S f R k) {R' : RS} {m x : Nat} (h1 : R'.ins = R.ins) (h2 : R'.outs = R.outs) (h3 : R'.puts = R.puts ++ [(m, x)]) (hS : f.safe = S) : Ag len S (f.outP m x) R' (k + 1) :=
  ⟨h.ins.trans h1.symm, fun i hi => by rw [h2]; exact h.outs i hi, fun j => by
    rw [h3]
    have := done_outP f R.puts m x (fun j => by rw [hS]; exact h.done j) j
    rw [this]
    show replay f.safe _ j = _
    rw [hS], by rw [h3, List.length_append]; have := h.n; simp; omega⟩
theorem Ag.commit {k : Nat} (h : Ag len S f R k) {R' : RS} (b : Bool) (h1 : R'.ins = R.ins) (h2 : R'.outs = if b then replay R.safe R.puts else R.safe) (h3 : R'.puts = []) (hS : f.safe = S) (hR : R.safe = S) (hn : f.nS = len) : Ag len S (f.commit (if b then f.done else f.safe)) R' (k + 1) :=
  ⟨h.ins.trans h1.symm, fun i hi => by
    rw [h2]
    show (if i < f.nS then (if b then f.done else f.safe) i else f.outs i) = _
    rw [if_pos (by omega)]
    cases b
    · show f.safe i = R.safe i
      rw [hS, hR]
    · show f.done i = replay R.safe R.puts i
      rw [hR]; exact h.done i, fun j => by rw [h3, done_commit]; show replay f.safe [] j = _; rw [hS], by rw [h3]; exact Nat.zero_le _⟩
theorem inE_eq (h : Sp w0 w f R nI len rd wt a S) (p n : Int) : inE f p n = rE R p n := by unfold inE rE; rw [h.frd, h.rrd, h.fI, h.rI]
theorem inX_eq {k : Nat} (h : Sp w0 w f R nI len rd wt a S) (hA : Ag len S f R k) (p n : Int) : inX f p n = rX R p n := by unfold inX rX; rw [inE_eq h, hA.ins]
theorem outE_eq (h : Sp w0 w f R nI len rd wt a S) (p n : Int) : outE f p n = oE R p n := by unfold outE oE; rw [h.fwr, h.rwt, h.fS, h.rS]
end
def latE (n nI : Nat) : Int := if n = nI then 0 else 2
theorem latch_all (g : Nat) (f : FS) (hg : f.g = g) (nI : Nat) (hI : f.nI = nI) (a : Option Addr) (n c : Nat) (X : Nat → Nat) (w : World) (h : FieldAt w f) (hm : n ≤ 9223372036854775807) (hX : SliceAt w a n (uV X)) (hXl : ∀ i, X i < 4294967296) :
    Calls Try.prog 11 #[.pointer (some ⟨g, 0, none⟩), .slice a n c] w fun e w' => e = .returned (.int .i64 (latE n nI)) ∧ FieldAt w' (if n = nI then f.latch X else f) ∧ Only f.M w w' := by
  by_cases hE : n = nI
  · refine (latch_g g f hg n a c X w h (hI.trans hE.symm) hX hXl).mono ?_
    rintro e w' ⟨rfl, h1, h2⟩
    exact ⟨by unfold latE; rw [if_pos hE], by rw [if_pos hE]; exact h1, h2⟩
  · refine (latchbad_g g f hg a n c w h (by rw [hI]; exact hE) hm).mono ?_
    rintro e w' ⟨rfl, rfl⟩
    exact ⟨by unfold latE; rw [if_neg hE], by rw [if_neg hE]; exact h, Only.refl _ _⟩
theorem LikeR.refl (B : Nat) (R : RS) : LikeR B R R := ⟨rfl, rfl, rfl, rfl, rfl, rfl, rfl, rfl, rfl, .inl rfl, .inl rfl, fun h => .inl ⟨h, rfl⟩⟩
theorem ref_latch_all (r : Nat) (R : RS) (hr : R.r = r) (nI : Nat) (hI : R.nI = nI) (a : Option Addr) (n c : Nat) (X : Nat → Nat) (w : World) (h : RefAt w R) (hm : n ≤ 9223372036854775807) (hX : SliceAt w a n (uV X)) :
    Calls Try.prog 12 #[.pointer (some ⟨r, 0, none⟩), .slice a n c] w fun e w' => e = .returned (.int .i64 (latE n nI)) ∧ (∃ R', RefAt w' R' ∧ LikeR w.heap.size R R' ∧ (if n = nI then R'.ins = X ∧ R'.outs = R.outs ∧ R'.puts = [] else R' = R)) ∧ Only R.M w w' := by
  subst hr
  by_cases hE : n = nI
  · refine (ref_latch R a n c X w h (by omega) hX).mono ?_
    rintro e w' ⟨rfl, ⟨R', h1, h2, h3, h4, h5⟩, ho⟩
    exact ⟨by unfold latE; rw [if_pos hE], ⟨R', h1, h5, by rw [if_pos hE]; exact ⟨h2, h3, h4⟩⟩, ho.mono (fun i _ h => .inl h)⟩
  · refine (ref_latchbad R a n c w h (by omega) hm).mono ?_
    rintro e w' ⟨rfl, rfl⟩
    exact ⟨by unfold latE; rw [if_neg hE], ⟨R, h, LikeR.refl _ _, by rw [if_neg hE]⟩, Only.refl _ _⟩
theorem ref_out_all (r : Nat) (R : RS) (hr : R.r = r) (p n : Int) (x : Nat) (w : World) (h : RefAt w R) (hx : x < 4294967296) (hl : R.puts.length < 500) :
    Calls Try.prog 16 #[.pointer (some ⟨r, 0, none⟩), .int .i64 p, .int .i64 n, .int .u32 (x : Int)] w fun e w' => e = .returned (.int .i64 (oE R p n)) ∧ (∃ R', RefAt w' R' ∧ LikeR w.heap.size R R' ∧ (if oE R p n = 0 then R'.ins = R.ins ∧ R'.outs = R.outs ∧ R'.puts = R.puts ++ [(n.toNat, x)] else R' = R)) ∧ Only R.M w w' := by
  subst hr
  by_cases hE : oE R p n = 0
  · have hz : p = R.wt ∧ 0 ≤ n ∧ n < (R.nS : Int) := by
      unfold oE at hE
      by_cases h1 : p ≠ R.wt
      · rw [if_pos h1] at hE; omega
      · rw [if_neg h1] at hE
        by_cases h2 : n < 0 ∨ (R.nS : Int) ≤ n
        · rw [if_pos h2] at hE; omega
        · omega
    obtain ⟨rfl, h2, h3⟩ := hz
    obtain ⟨m, rfl⟩ := Int.eq_ofNat_of_zero_le h2
    refine (ref_out R m x w h (by omega) hx hl).mono ?_
    rintro e w' ⟨rfl, ⟨R', h1, h2, h3, h4, h5⟩, ho⟩
    exact ⟨by rw [hE], ⟨R', h1, h5, by rw [if_pos hE, Int.toNat_natCast]; exact ⟨h2, h3, h4⟩⟩, ho⟩
  · refine (ref_outbad R p n x w h _ rfl hE).mono ?_
    rintro e w' ⟨rfl, rfl⟩
    exact ⟨rfl, ⟨R, h, LikeR.refl _ _, by rw [if_neg hE]⟩, Only.refl _ _⟩
theorem ref_in_g (r : Nat) (R : RS) (hr : R.r = r) (p n : Int) (w : World) (h : RefAt w R) (hn : in64 n) :
    Calls Try.prog 14 #[.pointer (some ⟨r, 0, none⟩), .int .i64 p, .int .i64 n] w fun e w' => e = .returned (.tuple #[.int .u32 ((rX R p n : Nat) : Int), .int .i64 (rE R p n)]) ∧ w = w' := by subst hr; exact ref_in R p n w h hn
theorem ref_commit_g (r : Nat) (R : RS) (hr : R.r = r) (ok : Bool) (w : World) (h : RefAt w R) :
    Calls Try.prog 18 #[.pointer (some ⟨r, 0, none⟩), .bool ok] w fun e w' => e = .returned (.tuple #[]) ∧ (∃ R', RefAt w' R' ∧ R'.ins = R.ins ∧ R'.outs = (if ok then replay R.safe R.puts else R.safe) ∧ R'.puts = [] ∧ LikeR w.heap.size R R') ∧ Only R.M w w' := by
  subst hr
  refine (ref_commit R ok w h).mono ?_
  rintro e w' ⟨rfl, h1, ho⟩
  exact ⟨rfl, h1, ho.mono (fun i _ h => .inl h)⟩
end Go.Proofs.Ytdelcndaogjngaa
