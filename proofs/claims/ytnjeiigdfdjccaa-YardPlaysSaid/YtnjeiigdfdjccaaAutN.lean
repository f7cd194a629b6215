/- New: lists cloned; what survives. -/
import Derived.Test.YtnjeiigdfdjccaaAutRt
namespace Go.Proofs.Ytnjeiigdfdjccaa
open Go.RowKit
set_option linter.unusedVariables false
set_option linter.unusedSimpArgs false
/-- A slice that is not empty does not lie in that block. -/
def Off (v : Value) (ob : Nat) : Prop := ∀ b o k c, v = .slice (some ⟨b, o, none⟩) k c → 0 < k → b ≠ ob
theorem IntsAt.only' {w w' : World} {v : Value} {l : List Int} {ob : Nat} (h : IntsAt w v l) (ho : Only (fun b => b = ob) w w') (hv : Off v ob) : IntsAt w' v l := by
  obtain ⟨⟨a, c, e, h1, h2, h3⟩, h4⟩ := h
  refine ⟨⟨a, c, e, h1, h2, ?_⟩, h4⟩
  by_cases hl : l.length = 0
  · exact .inl hl
  · exact h3.only ho (fun b off ha _ => hv b off l.length c (by rw [e, ha]) (by omega))
theorem SliceN.only {M : Nat → Prop} {w w' : World} {a : Option Addr} {n sz : Nat} {C : Nat → Nat → Value} (h : SliceN w a n sz C) (ho : Only M w w') (hb : ∀ b off, a = some ⟨b, off, none⟩ → b < w.heap.size → ¬ M b) : SliceN w' a n sz C := by
  rcases h with h | ⟨b, off, rfl, hlt, hc⟩
  · exact .inl h
  · exact .inr ⟨b, off, rfl, Nat.lt_of_lt_of_le hlt ho.size, fun i hi j hj => by
      have := ho.block b hlt (hb b off rfl hlt)
      rw [← hc i hi j hj]; simp [World.cell?, this]⟩
theorem PtsAt.only' {w w' : World} {v : Value} {l : List (Int × Bool)} {ob : Nat} (h : PtsAt w v l) (ho : Only (fun b => b = ob) w w') (hv : Off v ob) : PtsAt w' v l := by
  obtain ⟨⟨a, c, e, h1, h2, h3⟩, h4⟩ := h
  refine ⟨⟨a, c, e, h1, h2, ?_⟩, h4⟩
  by_cases hl : l.length = 0
  · exact .inl hl
  · exact h3.only ho (fun b off ha _ => hv b off l.length c (by rw [e, ha]) (by omega))
structure RtOff (C : Nat → Value) (ob : Nat) : Prop where
  tr : Off (C 1) ob
  pts : Off (C 2) ob
  con : Off (C 4) ob
theorem RtAt.only' {w w' : World} {C : Nat → Value} {r : Rt} {ob : Nat} (h : RtAt w C r) (ho : Only (fun b => b = ob) w w') (hv : RtOff C ob) : RtAt w' C r :=
  ⟨h.sig, h.tr.only' ho hv.tr, h.pts.only' ho hv.pts, h.app, h.con.only' ho hv.con, h.hold, h.sigOk, h.appOk, h.holdOk⟩
theorem IntsAt.off {w : World} {v : Value} {l : List Int} (h : IntsAt w v l) {ob : Nat} (hb : w.heap.size ≤ ob) : Off v ob := by
  intro b o k c e hk
  obtain ⟨⟨a, c', e', _, _, h3⟩, _⟩ := h
  rw [e'] at e
  cases e
  obtain ⟨b', o', e, hlt, _⟩ := h3.at hk
  cases e
  omega
theorem PtsAt.off {w : World} {v : Value} {l : List (Int × Bool)} (h : PtsAt w v l) {ob : Nat} (hb : w.heap.size ≤ ob) : Off v ob := by
  intro b o k c e hk
  obtain ⟨⟨a, c', e', _, _, h3⟩, _⟩ := h
  rw [e'] at e
  cases e
  obtain ⟨b', o', e, hlt, _⟩ := h3.at hk
  cases e
  omega
theorem RtAt.off {w : World} {C : Nat → Value} {r : Rt} (h : RtAt w C r) {ob : Nat} (hb : w.heap.size ≤ ob) : RtOff C ob := ⟨h.tr.off hb, h.pts.off hb, h.con.off hb⟩
/-- A list cloned. -/
def ClnI (w : World) (l : List Int) (e : Ending) (w' : World) : Prop := ∃ a c, e = .returned (.slice a l.length c) ∧ IntsAt w' (.slice a l.length c) l ∧ (∀ ob, ob < w.heap.size → Off (.slice a l.length c) ob) ∧ Below w.heap.size w w'
def ClnPt (w : World) (l : List (Int × Bool)) (e : Ending) (w' : World) : Prop := ∃ a c, e = .returned (.slice a l.length c) ∧ PtsAt w' (.slice a l.length c) l ∧ (∀ ob, ob < w.heap.size → Off (.slice a l.length c) ob) ∧ Below w.heap.size w w'
theorem clone_ints (v : Value) (l : List Int) (w : World) (h : IntsAt w v l) (hn : l.length ≤ 1000000) : Calls Try.prog 42 #[v] w (ClnI w l) := by
  have hok := h.ok
  obtain ⟨a, c, rfl, h1, h2, h3⟩ := h.at_
  refine (clone_int a l.length c (intV .i64 l) w (fun _ _ => rfl) hn (by rw [Nat.mul_one]; exact h3)).mono ?_
  rintro e w' ⟨v, rfl, ⟨b, hs, hb⟩, hbb⟩
  obtain ⟨a', c', rfl, k1, k2, k3⟩ := hs
  refine ⟨a', c', rfl, ⟨⟨a', c', rfl, k1, k2, ?_⟩, hok⟩, fun ob hob b' o k c e hk => ?_, hbb⟩
  · by_cases hl : l.length = 0
    · exact .inl hl
    · obtain ⟨rfl, hr⟩ := k3 (by omega)
      exact .inr ⟨b, 0, rfl, hr.lt, fun i hi => by rw [Nat.zero_add]; exact hr.cell (by omega)⟩
  · cases e
    obtain ⟨e, hr⟩ := k3 hk
    cases e
    have := (hb hk).1
    omega
theorem clone_pts (v : Value) (l : List (Int × Bool)) (w : World) (h : PtsAt w v l) (hn : l.length ≤ 1000000) : Calls Try.prog 44 #[v] w (ClnPt w l) := by
  have hok := h.ok
  obtain ⟨a, c, rfl, h1, h2, h3⟩ := h.at_
  refine (clone_pt a l.length c (fun q => ptV l (q / 2) (q % 2)) w (fun q _ => by unfold ptV; split <;> rfl) hn (h3.flat (by omega))).mono ?_
  rintro e w' ⟨v, rfl, ⟨b, hs, hb⟩, hbb⟩
  obtain ⟨a', c', rfl, k1, k2, k3⟩ := hs
  refine ⟨a', c', rfl, ⟨⟨a', c', rfl, k1, k2, ?_⟩, hok⟩, fun ob hob b' o k c e hk => ?_, hbb⟩
  · by_cases hl : l.length = 0
    · exact .inl hl
    · obtain ⟨rfl, hr⟩ := k3 (by omega)
      refine .inr ⟨b, 0, rfl, hr.lt, fun i hi j hj => ?_⟩
      rw [Nat.zero_add, hr.cell (show i * 2 + j < l.length * 2 by omega)]
      show some (ptV l ((i * 2 + j) / 2) ((i * 2 + j) % 2)) = _
      rw [show (i * 2 + j) / 2 = i by omega, show (i * 2 + j) % 2 = j by omega]
  · cases e
    obtain ⟨e, hr⟩ := k3 hk
    cases e
    have := (hb hk).1
    omega
/-- Routes in a row of cells. -/
structure RtRow (w : World) (ob : Nat) (l : List Rt) (V : Nat → Value) : Prop where
  row : RowAt w ob 41 (l.length * 6) V
  rt : ∀ j, j < l.length → RtAt w (fun f => V (j * 6 + f)) (l.getD j rt0)
  off : ∀ j, j < l.length → RtOff (fun f => V (j * 6 + f)) ob
theorem RtRow.below {w w' : World} {ob : Nat} {l : List Rt} {V : Nat → Value} (h : RtRow w ob l V) (hb : Below w.heap.size w w') : RtRow w' ob l V :=
  ⟨h.row.same (hb.block _ h.row.lt), fun j hj => (h.rt j hj).below hb, h.off⟩
theorem RtRow.rts {w : World} {ob : Nat} {l : List Rt} {V : Nat → Value} {c : Nat} (h : RtRow w ob l V) (h1 : l.length ≤ c) (h2 : c ≤ maxLen) : RtsAt w (.slice (some ⟨ob, 0, none⟩) l.length c) l :=
  ⟨⟨_, c, fun i j => V (i * 6 + j), rfl, h1, h2, .inr ⟨ob, 0, rfl, h.row.lt, fun i hi j hj => by rw [Nat.zero_add]; exact h.row.cell (by omega)⟩, h.rt⟩⟩
def ClnR (B : Nat) (w : World) (l : List Rt) (e : Ending) (w' : World) : Prop := ∃ ob c V, e = .returned (.slice (some ⟨ob, 0, none⟩) l.length c) ∧ l.length ≤ c ∧ c ≤ maxLen ∧ w.heap.size ≤ ob ∧ RtRow w' ob l V ∧ (∀ j, j < l.length → ∀ x, B ≤ x → RtOff (fun f => V (j * 6 + f)) x) ∧ Below w.heap.size w w'
theorem RtAt.one {w : World} {C : Nat → Value} {r : Rt} (h : RtAt w C r) : ∀ j, j < 6 → (C j).oneCell' = true := by
  obtain ⟨⟨_, _, e1, _⟩, _⟩ := h.tr
  obtain ⟨⟨_, _, e2, _⟩, _⟩ := h.pts
  obtain ⟨⟨_, _, e4, _⟩, _⟩ := h.con
  intro j hj
  match j, hj with
  | 0, _ => rw [h.sig]; rfl
  | 1, _ => rw [e1]; rfl
  | 2, _ => rw [e2]; rfl
  | 3, _ => rw [h.app]; rfl
  | 4, _ => rw [e4]; rfl
  | 5, _ => rw [h.hold]; rfl
theorem clone_rts (v : Value) (l : List Rt) (w0 w : World) (h : RtsAt w0 v l) (hw : Below w0.heap.size w0 w) (hn : l.length ≤ 1000000) (h0 : 0 < l.length) : Calls Try.prog 43 #[v] w (ClnR w0.heap.size w l) := by
  obtain ⟨a, c, C, rfl, h1, h2, h3, h4⟩ := h.at_
  refine (clone_rt a l.length c (fun q => C (q / 6) (q % 6)) w (fun q hq => (h4 (q / 6) (by omega)).one _ (Nat.mod_lt _ (by omega))) hn ((h3.below hw).flat (by omega))).mono ?_
  rintro e w' ⟨v, rfl, ⟨b, hs, hb⟩, hbb⟩
  obtain ⟨a', c', rfl, k1, k2, k3⟩ := hs
  obtain ⟨rfl, hr⟩ := k3 h0
  have hlt := (hb h0).1
  have hR : ∀ j, j < l.length → RtAt w0 (fun f => C ((j * 6 + f) / 6) ((j * 6 + f) % 6)) (l.getD j rt0) := fun j hj => by
    have := h4 j hj
    have q : ∀ f, f < 6 → C ((j * 6 + f) / 6) ((j * 6 + f) % 6) = C j f := fun f hf => by rw [show (j * 6 + f) / 6 = j by omega, show (j * 6 + f) % 6 = f by omega]
    exact ⟨(q 0 (by omega)).trans this.sig, by rw [q 1 (by omega)]; exact this.tr, by rw [q 2 (by omega)]; exact this.pts, (q 3 (by omega)).trans this.app, by rw [q 4 (by omega)]; exact this.con, (q 5 (by omega)).trans this.hold, this.sigOk, this.appOk, this.holdOk⟩
  have hsz := hw.size
  exact ⟨b, c', _, rfl, k1, k2, hlt, ⟨hr, fun j hj => ((hR j hj).below hw).below hbb, fun j hj => (hR j hj).off (by omega)⟩, fun j hj x hx => (hR j hj).off hx, hbb⟩
end Go.Proofs.Ytnjeiigdfdjccaa
