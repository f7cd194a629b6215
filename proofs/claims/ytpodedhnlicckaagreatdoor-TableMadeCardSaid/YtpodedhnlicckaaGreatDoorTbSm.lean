/- Same: equal tables. -/
import Derived.Test.YtpodedhnlicckaaGreatDoorTabP
import Derived.BigQuiet
import Derived.BigRegion
namespace Go.Proofs.YtpodedhnlicckaaGreatDoor
open Go.Shelf Go.RowKit
set_option linter.unusedVariables false
set_option linter.unusedSimpArgs false
theorem eq_pt (n : Int) (b : Bool) (w : World) : (Op.equalIn 10000 57 (.agg #[.int .i64 n, .bool b]) (.agg #[.int .i64 n, .bool b])).run Tryz.prog w = .ok true w := by
  have hS : Tryz.prog.underlying 57 = some (.struct (Tryz.prog.fieldsOf 57)) := by kernel_rfl
  have hp : Tryz.prog.stoodInHeld 57 = false := by kernel_rfl
  rw [show (10000 : Nat) = 9999 + 1 from rfl, run_equalIn_agg w 9999 57 _ _ hS hp]
  simp only [Program.fieldsOf, Tryz.underlying57]
  go_simp
set_option maxRecDepth 100000 in
theorem same_any (v u : Value) (l : List Int) (w : World) (h1 : IntsAt w v l) (h2 : IntsAt w u l) : Calls Tryz.prog 54 #[v, u] w fun e w' => e = .returned (.bool true) ∧ Below w.heap.size w w' := by
  have hsz := h1.size
  unfold maxLen at hsz
  obtain ⟨a, c, rfl, hlc, hcm, _⟩ := h1.at_
  obtain ⟨a', c', rfl, hlc', hcm', _⟩ := h2.at_
  have HA := Lib.hid h1; have HB := Lib.hid h2
  clear h1 h2
  generalize hn : l.length = n at *
  go_enter Tryz.func54, Tryz.ntmps54
  go_wp2_with fail
  go_loopw [5, 6] (fun b i wr => b = .bool true ∧ ∃ k : Nat, k ≤ n ∧ i = .int .i64 (k : Int) ∧ Hid (Below w.heap.size w wr)) (fun b i _ => n - (intOf i).toNat)
  case atStart => exact ⟨by first | rfl | simp, 0, Nat.zero_le _, rfl, Below.refl _ _⟩
  case round =>
    obtain ⟨rfl, k, hk, rfl, BB⟩ := hrel
    rcases Nat.lt_or_ge k n with hk2 | hk2
    case inr =>
      obtain rfl : k = n := by omega
      have t2 : decide ((k : Int) < (k : Int)) = false := by simp
      go_wp2_with fail
      go_ret
      exact ⟨rfl, BB.out⟩
    have t2 : decide ((k : Int) < (n : Int)) = true := decide_eq_true (by omega)
    obtain ⟨g, off, rfl, hb, x0⟩ := HA.out.cell (by omega : k < l.length)
    obtain ⟨g', off', rfl, hb', y0⟩ := HB.out.cell (by omega : k < l.length)
    have c0 : wr.cell? ⟨g, off + k, none⟩ = some (.int .i64 (l.getD k 0)) := (BB.out.cell hb).trans x0
    have d0 : wr.cell? ⟨g', off' + k, none⟩ = some (.int .i64 (l.getD k 0)) := (BB.out.cell hb').trans y0
    generalize l.getD k 0 = y at *
    clear HA HB
    go_wp2_with fail
    go_quiet (fail)
    have B2 : Hid (Below w.heap.size w (wr.drewN nq)) := ⟨BB.out.os, BB.out.tape, BB.out.output, BB.out.size, BB.out.block⟩
    generalize wr.drewN nq = w2 at *
    go_wp2_with fail
    refine ⟨⟨by first | rfl | simp, k + 1, by omega, by go_num, B2⟩, ?_⟩
    simp [intOf]; omega
end Go.Proofs.YtpodedhnlicckaaGreatDoor
