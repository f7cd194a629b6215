/- Equal, EqualFunc: equal lists of lists. -/
import Derived.Test.YtpodedhnlicckaaGreatDoorTabC
import Derived.BigQuiet
namespace Go.Proofs.YtpodedhnlicckaaGreatDoor
open Go.Shelf Go.RowKit
set_option linter.unusedVariables false
set_option linter.unusedSimpArgs false
structure LsAt (w : World) (v : Value) (m : Nat) (L : Nat → List Int) : Prop where
  at_ : ∃ a c V, v = .slice a m c ∧ m ≤ c ∧ c ≤ maxLen ∧ SliceAt w a m V ∧ ∀ j, j < m → IntsAt w (V j) (L j)
theorem LsAt.below {w w' : World} {v : Value} {m : Nat} {L : Nat → List Int} (h : LsAt w v m L) (hb : Below w.heap.size w w') : LsAt w' v m L := by
  obtain ⟨a, c, V, h1, h2, h3, h4, h5⟩ := h
  exact ⟨a, c, V, h1, h2, h3, h4.below hb, fun j hj => (h5 j hj).below hb⟩
set_option maxRecDepth 100000 in
theorem equal_any (v u : Value) (l : List Int) (w : World) (h1 : IntsAt w v l) (h2 : IntsAt w u l) : Calls Tryz.prog 14 #[v, u] w fun e w' => e = .returned (.bool true) ∧ Below w.heap.size w w' := by
  have hsz := h1.size
  unfold maxLen at hsz
  obtain ⟨a, c, rfl, hlc, hcm, _⟩ := h1.at_
  obtain ⟨a', c', rfl, hlc', hcm', _⟩ := h2.at_
  have HA := Lib.hid h1; have HB := Lib.hid h2
  clear h1 h2
  generalize hn : l.length = n at *
  go_enter Tryz.func14, Tryz.ntmps14
  go_wp2_with fail
  go_loopw [13] (fun i wr => ∃ k : Nat, k ≤ n ∧ i = .int .i64 (k : Int) ∧ Hid (Below w.heap.size w wr)) (fun i _ => n - (intOf i).toNat)
  case atStart => exact ⟨0, Nat.zero_le _, rfl, Below.refl _ _⟩
  case round =>
    obtain ⟨k, hk, rfl, BB⟩ := hrel
    rcases Nat.lt_or_ge k n with hk2 | hk2
    case inr =>
      obtain rfl : k = n := by omega
      have t2 : decide ((k : Int) < (k : Int)) = false := by simp
      go_wp2_with fail
      go_ret
      exact ⟨rfl, BB.out⟩
    have t2 : decide ((k : Int) < (n : Int)) = true := decide_eq_true (by omega)
    obtain ⟨g, off, rfl, hb, x0⟩ := HA.out.cell (by omega : k < l.length)
    obtain ⟨g', off', rfl, hb', y0⟩ := HB.out.cell (by omega : k < l.length)
    have c0 : wr.cell? ⟨g, off + k, none⟩ = some (.int .i64 (l.getD k 0)) := (BB.out.cell hb).trans x0
    have d0 : wr.cell? ⟨g', off' + k, none⟩ = some (.int .i64 (l.getD k 0)) := (BB.out.cell hb').trans y0
    generalize l.getD k 0 = y at *
    clear HA HB
    go_wp2_with fail
    go_quiet (fail)
    have B2 : Hid (Below w.heap.size w (wr.drewN nq)) := ⟨BB.out.os, BB.out.tape, BB.out.output, BB.out.size, BB.out.block⟩
    generalize wr.drewN nq = w2 at *
    go_wp2_with fail
    refine ⟨⟨k + 1, by omega, by go_num, B2⟩, ?_⟩
    simp [intOf]; omega
theorem eqcl_any (v u : Value) (l : List Int) (w : World) (h1 : IntsAt w v l) (h2 : IntsAt w u l) : Calls Tryz.prog 19 #[v, u] w fun e w' => e = .returned (.bool true) ∧ Below w.heap.size w w' := by
  have H := Lib.hid (equal_any v u l w h1 h2)
  clear h1 h2
  go_enter Tryz.func19, Tryz.ntmps19
  go_wp2_with fail
  (with_reducible refine H.out.mono ?_)
  rintro e w2 ⟨rfl, hb⟩
  have HB := Lib.hid hb
  go_wp2_with fail
  go_ret
  exact ⟨rfl, HB.out⟩
set_option maxRecDepth 100000 in
theorem eqf_any (v u : Value) (m : Nat) (L : Nat → List Int) (w : World) (h1 : LsAt w v m L) (h2 : LsAt w u m L) :
    Calls Tryz.prog 18 #[v, u, .func (.func 19) #[] #[]] w fun e w' => e = .returned (.bool true) ∧ Below w.heap.size w w' := by
  obtain ⟨a, c, V, rfl, hlc, hcm, hs, hi⟩ := h1
  obtain ⟨a', c', V', rfl, hlc', hcm', hs', hi'⟩ := h2
  unfold maxLen at hcm hcm'
  have HS := Lib.hid hs; have HS' := Lib.hid hs'
  have HE := Lib.hid (fun (j : Nat) (hj : j < m) (W : World) (hW : Below w.heap.size w W) => eqcl_any (V j) (V' j) (L j) W ((hi j hj).below hW) ((hi' j hj).below hW))
  clear hs hs' hi hi'
  go_enter Tryz.func18, Tryz.ntmps18
  go_wp2_with fail
  go_loopw [17] (fun i wr => ∃ k : Nat, k ≤ m ∧ i = .int .i64 (k : Int) ∧ Hid (Below w.heap.size w wr)) (fun i _ => m - (intOf i).toNat)
  case atStart => exact ⟨0, Nat.zero_le _, rfl, Below.refl _ _⟩
  case round =>
    obtain ⟨k, hk, rfl, BB⟩ := hrel
    rcases Nat.lt_or_ge k m with hk2 | hk2
    case inr =>
      obtain rfl : k = m := by omega
      have t2 : decide ((k : Int) < (k : Int)) = false := by simp
      go_wp2_with fail
      go_ret
      exact ⟨rfl, BB.out⟩
    have t2 : decide ((k : Int) < (m : Int)) = true := decide_eq_true (by omega)
    obtain ⟨g, off, rfl, hb, hc⟩ := HS.out.at (by omega)
    obtain ⟨g', off', rfl, hb', hc'⟩ := HS'.out.at (by omega)
    have c0 : wr.cell? ⟨g, off + k, none⟩ = some (V k) := (BB.out.cell hb).trans (hc k hk2)
    have d0 : wr.cell? ⟨g', off' + k, none⟩ = some (V' k) := (BB.out.cell hb').trans (hc' k hk2)
    have H := Lib.hid (HE.out k hk2 wr BB.out)
    clear hc hc'
    generalize V k = x at *
    generalize V' k = y at *
    go_wp2_with fail
    (with_reducible refine H.out.mono ?_)
    rintro e w2 ⟨rfl, hb2⟩
    have B2 : Hid (Below w.heap.size w w2) := BB.out.trans (hb2.mono BB.out.size)
    clear hb2 H c0 d0
    go_wp2_with fail
    refine ⟨⟨k + 1, by omega, by go_num, B2⟩, ?_⟩
    simp [intOf]; omega
end Go.Proofs.YtpodedhnlicckaaGreatDoor
