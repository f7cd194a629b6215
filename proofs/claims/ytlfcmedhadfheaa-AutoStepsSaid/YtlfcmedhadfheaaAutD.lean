/- Two automata in one memory: a later one's table lies apart from an earlier one's blocks. -/
import Derived.Test.YtlfcmedhadfheaaAutSt
import Derived.Test.YtlfcmedhadfheaaAutNw
namespace Go.Proofs.Ytlfcmedhadfheaa
open Go.RowKit
set_option linter.unusedVariables false
set_option linter.unusedSimpArgs false
def cut (W : World) (k : Nat) : World := { W with heap := W.heap.extract 0 k }
theorem cut_size {W : World} {k : Nat} (h : k ≤ W.heap.size) : (cut W k).heap.size = k := by
  show (W.heap.extract 0 k).size = k
  rw [Array.size_extract]; omega
theorem cut_get {W : World} {k b : Nat} (h : k ≤ W.heap.size) (hb : b < k) : (cut W k).heap[b]? = W.heap[b]? := by
  show (W.heap.extract 0 k)[b]? = _
  rw [Array.getElem?_extract, if_pos (by omega), Nat.zero_add]
/-- What lies behind address n is as it was. -/
structure Same (n : Nat) (w w' : World) : Prop where
  size : w.heap.size ≤ w'.heap.size
  get : ∀ b, n ≤ b → b < w.heap.size → w'.heap[b]? = w.heap[b]?
theorem SliceAt.same_ {n : Nat} {w w' : World} {a : Option Addr} {m : Nat} {V : Nat → Value} (h : SliceAt w a m V) (hs : Same n w w') (ho : ∀ b off, a = some ⟨b, off, none⟩ → 0 < m → n ≤ b) : SliceAt w' a m V := by
  rcases h with h | ⟨b, off, rfl, hlt, hc⟩
  · exact .inl h
  · by_cases hm : m = 0
    · exact .inl hm
    · exact .inr ⟨b, off, rfl, Nat.lt_of_lt_of_le hlt hs.size, fun i hi => (World.cell?_of_block (w := w) (hs.get b (ho b off rfl (by omega)) hlt)).trans (hc i hi)⟩
theorem SliceN.same_ {n : Nat} {w w' : World} {a : Option Addr} {m sz : Nat} {V : Nat → Nat → Value} (h : SliceN w a m sz V) (hs : Same n w w') (ho : ∀ b off, a = some ⟨b, off, none⟩ → 0 < m → n ≤ b) : SliceN w' a m sz V := by
  rcases h with h | ⟨b, off, rfl, hlt, hc⟩
  · exact .inl h
  · by_cases hm : m = 0
    · exact .inl hm
    · exact .inr ⟨b, off, rfl, Nat.lt_of_lt_of_le hlt hs.size, fun i hi j hj => (World.cell?_of_block (w := w) (hs.get b (ho b off rfl (by omega)) hlt)).trans (hc i hi j hj)⟩
theorem IntsAt.same_ {n : Nat} {w w' : World} {v : Value} {l : List Int} (h : IntsAt w v l) (hs : Same n w w') (ho : ∀ b, b < n → Off v b) : IntsAt w' v l := by
  obtain ⟨⟨a, c, e, h1, h2, h3⟩, h4⟩ := h
  exact ⟨⟨a, c, e, h1, h2, h3.same_ hs fun b off ha hm => Nat.le_of_not_lt fun hb => ho b hb b off _ _ (by rw [e, ha]) hm rfl⟩, h4⟩
theorem PtsAt.same_ {n : Nat} {w w' : World} {v : Value} {l : List (Int × Bool)} (h : PtsAt w v l) (hs : Same n w w') (ho : ∀ b, b < n → Off v b) : PtsAt w' v l := by
  obtain ⟨⟨a, c, e, h1, h2, h3⟩, h4⟩ := h
  exact ⟨⟨a, c, e, h1, h2, h3.same_ hs fun b off ha hm => Nat.le_of_not_lt fun hb => ho b hb b off _ _ (by rw [e, ha]) hm rfl⟩, h4⟩
theorem FrR.rts {n : Nat} {w w' : World} {v : Value} {l : List Rt} (h : FrR n w v l) (hs : Same n w w') : RtsAt w' v l := by
  obtain ⟨ob, c, C, rfl, hn, h1, h2, h3, h4⟩ := h
  refine ⟨_, c, C, rfl, h1, h2, h3.same_ hs (fun b off ha hm => by cases ha; exact hn), fun i hi => ?_⟩
  obtain ⟨hr, ho⟩ := h4 i hi
  exact ⟨hr.sig, hr.tr.same_ hs (fun b hb => (ho b hb).tr), hr.pts.same_ hs (fun b hb => (ho b hb).pts), hr.app, hr.con.same_ hs (fun b hb => (ho b hb).con), hr.hold, hr.sigOk, hr.appOk, hr.holdOk⟩
/-- An automaton whose table lies in blocks from n on. -/
structure FA (n : Nat) (W : World) (u : Au) (S : AS) : Prop where
  obj : W.heap[u.g]? = some (.cells #[.int .i64 u.T.tracks, u.vp, .int .i64 u.T.sigs, u.vr, u.vrs, u.vps] 71 (0, 0))
  tp : IntsAt u.w0 u.vp u.T.pts
  fr : TFr n u
  same : Same n u.w0 W
  rs : ∃ c, u.vrs = .slice (some ⟨u.rb, 0, none⟩) u.T.rts.length c ∧ u.T.rts.length ≤ c ∧ c ≤ maxLen ∧ RowAt W u.rb 48 (u.T.rts.length * 4) (rsV S.R)
  ps : SlAt W u.vps u.pb 5 u.T.pts.length (psV S.C)
  gB : u.w0.heap.size ≤ u.g
  rB : u.w0.heap.size ≤ u.rb
  pB : u.w0.heap.size ≤ u.pb
  gr : u.g ≠ u.rb
  gp : u.g ≠ u.pb
  rp : u.rb ≠ u.pb
  pl : u.pb < W.heap.size
theorem FA.of {n : Nat} {W : World} {u : Au} {S : AS} (h : AutoAt W u S) (hf : TFr n u) : FA n W u S :=
  ⟨h.obj, h.tp, hf, ⟨h.bel.size, fun b _ hb => h.bel.block b hb⟩, h.rs, h.ps, h.gB, h.rB, h.pB, h.gr, h.gp, h.rp, h.pl⟩
def Au.cut (u : Au) (W : World) : Au := { u with w0 := Go.Proofs.Ytlfcmedhadfheaa.cut W u.w0.heap.size }
theorem FA.at {n : Nat} {W : World} {u : Au} {S : AS} (h : FA n W u S) : AutoAt W (u.cut W) S := by
  have hk := h.same.size
  have hs : Same n u.w0 (Go.Proofs.Ytlfcmedhadfheaa.cut W u.w0.heap.size) := ⟨by rw [cut_size hk]; exact Nat.le_refl _, fun b h1 h2 => (cut_get hk h2).trans (h.same.get b h1 h2)⟩
  refine ⟨h.obj, h.tp.same_ hs h.fr.1, h.fr.2.rts hs, ?_, h.rs, h.ps, ?_, ?_, ?_, h.gr, h.gp, h.rp, h.pl⟩
  · exact ⟨rfl, rfl, rfl, by show (Go.Proofs.Ytlfcmedhadfheaa.cut W u.w0.heap.size).heap.size ≤ _; rw [cut_size hk]; exact hk, fun b hb => (cut_get hk (by rw [← cut_size hk]; exact hb)).symm⟩
  · show (Go.Proofs.Ytlfcmedhadfheaa.cut W u.w0.heap.size).heap.size ≤ _; rw [cut_size hk]; exact h.gB
  · show (Go.Proofs.Ytlfcmedhadfheaa.cut W u.w0.heap.size).heap.size ≤ _; rw [cut_size hk]; exact h.rB
  · show (Go.Proofs.Ytlfcmedhadfheaa.cut W u.w0.heap.size).heap.size ≤ _; rw [cut_size hk]; exact h.pB
theorem FA.step {n : Nat} {W W' V : World} {u : Au} {S S' : AS} (h : FA n W u S) (h2 : AutoAt W' (u.cut V) S') (hO : Only u.M W W') : FA n W' u S' :=
  ⟨h2.obj, h.tp, h.fr, ⟨Nat.le_trans h.same.size hO.size, fun b h1 hb => (hO.block b (Nat.lt_of_lt_of_le hb h.same.size) (fun hm => by have := h.rB; have := h.pB; rcases hm with e | e <;> omega)).trans (h.same.get b h1 hb)⟩, h2.rs, h2.ps, h.gB, h.rB, h.pB, h.gr, h.gp, h.rp, h2.pl⟩
theorem FA.other {n : Nat} {W W' : World} {u : Au} {S : AS} {M : Nat → Prop} (h : FA n W u S) (hO : Only M W W') (hi : Nat) (hM : ∀ b, M b → b < n ∨ hi ≤ b) (hn : n ≤ u.w0.heap.size) (hw : u.w0.heap.size ≤ hi) (hg : u.g < hi) (hr : u.rb < hi) (hp : u.pb < hi) : FA n W' u S := by
  obtain ⟨c, k1, k2, k3, k4⟩ := h.rs
  have hq : ∀ b, n ≤ b → b < hi → ¬ M b := fun b h1 h2 hm => by have := hM b hm; omega
  have := h.gB; have := h.rB; have := h.pB
  exact ⟨(hO.block _ (heap_lt h.obj) (hq _ (by omega) hg)).trans h.obj, h.tp, h.fr, ⟨Nat.le_trans h.same.size hO.size, fun b h1 hb => (hO.block b (Nat.lt_of_lt_of_le hb h.same.size) (hq b h1 (Nat.lt_of_lt_of_le hb hw))).trans (h.same.get b h1 hb)⟩,
    ⟨c, k1, k2, k3, k4.same (hO.block _ k4.lt (hq _ (by omega) hr))⟩, h.ps.same (fun hpp => hO.block _ (h.ps.lt hpp) (hq _ (by omega) hp)), h.gB, h.rB, h.pB, h.gr, h.gp, h.rp, Nat.lt_of_lt_of_le h.pl hO.size⟩
theorem FA.below {n : Nat} {W W' : World} {u : Au} {S : AS} (h : FA n W u S) (hb : Below W.heap.size W W') (hn : n ≤ u.w0.heap.size) : FA n W' u S :=
  h.other (M := fun b => W.heap.size ≤ b) ⟨hb.os, hb.tape, hb.output, hb.size, fun b hb1 _ => hb.block b hb1⟩ W.heap.size (fun b hm => .inr hm) hn h.same.size (heap_lt h.obj) (by obtain ⟨_, _, _, _, k⟩ := h.rs; exact k.lt) h.pl
/-- A step of it. -/
theorem fa_step {n : Nat} {u : Au} {S : AS} (f : FD) (W : World) (h : FA n W u S) (hf : f.Ok) (hT : TOk u.T) (hS : S.Ok) :
    Calls Try.prog 13 #[.pointer (some ⟨u.g, 0, none⟩), .agg #[.int .u32 (f.cl : Int), .int .u32 (f.no : Int), .int .u32 (f.re : Int), .int .u32 (f.ak : Int), .int .u32 (f.ca : Int), .int .u32 (f.rq : Int)]] W fun e w' => e = .returned (orderS u.T f (stepS u.T f S)).val ∧ FA n w' u (stepS u.T f S) ∧ Only u.M W w' := by
  refine (step_any (u.cut W) S f W h.at hf hT hS).mono ?_
  rintro e w' ⟨h1, h2, h3⟩
  exact ⟨h1, h.step h2 h3, h3⟩
end Go.Proofs.Ytlfcmedhadfheaa
