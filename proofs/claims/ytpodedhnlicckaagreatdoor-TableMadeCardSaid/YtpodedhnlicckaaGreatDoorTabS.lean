/- IsSorted; a route's points. -/
import Derived.Test.YtpodedhnlicckaaGreatDoorTabMu
import Derived.Laws.AppendOwn
import Derived.Maps.AppendAt
namespace Go.Proofs.YtpodedhnlicckaaGreatDoor
open Go.RowKit
set_option linter.unusedVariables false
set_option linter.unusedSimpArgs false
theorem sortedI_no {l : List Int} {i : Nat} (h0 : 0 < i) (hi : i < l.length) (h : l.getD i 0 < l.getD (i - 1) 0) : sortedI l = false := by
  cases e : sortedI l with
  | false => rfl
  | true => exact absurd h (sortedI_iff.1 e i h0 hi)
set_option maxHeartbeats 2000000 in
theorem sorted_any (v : Value) (l : List Int) (w : World) (h : IntsAt w v l) :
    Calls Tryz.prog 78 #[v] w fun e w' => e = .returned (.bool (sortedI l)) ∧ Below w.heap.size w w' := by
  have hsz := h.size
  unfold maxLen at hsz
  obtain ⟨a, c, rfl, hlc, hcm, _⟩ := h.at_
  have H := Lib.hid h
  clear h
  obtain ⟨F, hF⟩ : ∃ F, F = sortedI l := ⟨_, rfl⟩
  rw [← hF]
  have HF := Lib.hid hF
  clear hF
  go_enter Tryz.func78, Tryz.ntmps78
  go_wp2_with fail
  go_loopw [3] (fun i wr => ∃ k : Nat, k ≤ l.length ∧ i = .int .i64 ((k : Int) - 1) ∧ (∀ j, k ≤ j → 0 < j → j < l.length → ¬ l.getD j 0 < l.getD (j - 1) 0) ∧ Below w.heap.size w wr) (fun i _ => (intOf i + 1).toNat)
  case atStart => exact ⟨l.length, Nat.le_refl _, rfl, fun j h1 _ h2 => absurd h1 (by omega), Below.refl _ _⟩
  case round =>
    obtain ⟨k, hk, rfl, hno, hb⟩ := hrel
    have NO := Lib.hid hno; have B1 := Lib.hid hb
    clear hno hb
    obtain ⟨w1, rfl⟩ : ∃ w1 : World, w1 = wr := ⟨_, rfl⟩
    by_cases hlt : 1 < k
    · obtain ⟨j, rfl⟩ : ∃ j, k = j + 2 := ⟨k - 2, by omega⟩
      have t0 : decide (0 < ((j + 2 : Nat) : Int) - 1) = true := by simp; omega
      have e1 : ((j + 2 : Nat) : Int) - 1 = ((j + 1 : Nat) : Int) := by omega
      rw [e1] at t0 ⊢
      obtain ⟨b, off, rfl, hb, x0⟩ := (H.out.below B1.out).cell (i := j + 1) (by omega)
      obtain ⟨b', off', e, hb', x1⟩ := (H.out.below B1.out).cell (i := j) (by omega)
      cases e
      have HN : Hid (l.getD (j + 1) 0 < l.getD j 0 → F = false) := fun h => by rw [HF.out]; exact sortedI_no (i := j + 1) (by omega) (by omega) h
      have HNK : Hid (¬ l.getD (j + 1) 0 < l.getD j 0 → ∀ i, j + 1 ≤ i → 0 < i → i < l.length → ¬ l.getD i 0 < l.getD (i - 1) 0) := fun h i h1 h2 h3 => by
        by_cases e : i = j + 1
        · subst e; exact h
        · exact NO.out i (by omega) h2 h3
      generalize l.getD (j + 1) 0 = x at *
      generalize l.getD j 0 = y at *
      go_upto_region 4 with fail
      obtain ⟨U, f, hUn, hU1, hU2⟩ := class_of (fun V => Below w1.heap.size w1 V) (W := w1.drew) ⟨rfl, rfl, rfl, Nat.le_refl _, fun _ _ => rfl⟩
      have y0 : ∀ u, (f u).cell? ⟨b, off + (j + 1), none⟩ = some (.int .i64 x) := fun u => ((hU1 u).cell hb).trans x0
      have y1 : ∀ u, (f u).cell? ⟨b, off + j, none⟩ = some (.int .i64 y) := fun u => ((hU1 u).cell hb).trans x1
      have y2 : ∀ u, b < (f u).heap.size := fun u => Nat.lt_of_lt_of_le hb (hU1 u).size
      have HU1 := Lib.hid hU1; have HU2 := Lib.hid hU2
      clear hU1 hU2 x0 x1
      have hfm : (Tryz.prog).follows .mixedOrders = true := by kernel_rfl
      obtain ⟨q, hd1⟩ : ∃ q : Nat, 1 ≤ q := ⟨1, Nat.le_refl _⟩
      have HR : Hid (∀ u, CallsIn Fence.wide (q - 1) Tryz.prog 102 #[.int .i64 x, .int .i64 y] (f u) fun e w' => e = .returned (.bool (decide (x < y))) ∧ ∃ u', w' = f u') := fun u => (callsIn_wide.2 (less_int x y (f u))).mono (fun e w' ⟨he, hb⟩ => ⟨he, u, hb⟩)
      have hf0 : Fence.wide.fn 102 := trivial
      refine (wpIn_wide (n := q)).1 ?_
      refine wpIn_region_cls f (by kernel_rfl) hfm (by kernel_rfl) (HU2.out _ ⟨rfl, rfl, rfl, Nat.le_refl _, fun _ _ => rfl⟩) ?_
      repeat (gi_big_quiet_step (first | (gi_at_call 102; (with_reducible exact HR.out _))))
      refine wpQuietIn_nil ?_
      rintro w5 ⟨u, rfl⟩
      have B5 : Hid (Below w.heap.size w (f u)) := B1.out.trans ((HU1.out u).mono B1.out.size)
      generalize f u = w5 at *
      clear HR hf0 HU1 HU2 y0 y1 y2
      cases t1 : decide (x < y)
      case true =>
        have HX := Lib.hid (HN.out (of_decide_eq_true t1))
        go_wp2_with fail
        go_ret
        exact ⟨congrArg (fun x => Ending.returned (.bool x)) HX.out.symm, B5.out⟩
      case false =>
        have HX := Lib.hid (HNK.out (of_decide_eq_false t1))
        go_wp2_with fail
        go_roundw
        case rel => exact ⟨j + 1, by omega, by simp, HX.out, B5.out⟩
        case measure => simp [intOf]; omega
    · have HX : Hid (F = true) := by show _ = _; rw [HF.out]; exact sortedI_iff.2 (fun i h0 hi => NO.out i (by omega) h0 hi)
      have t0 : decide (0 < (k : Int) - 1) = false := by simp; omega
      go_wp2_with fail
      go_ret
      exact ⟨congrArg (fun x => Ending.returned (.bool x)) HX.out.symm, B1.out⟩
end Go.Proofs.YtpodedhnlicckaaGreatDoor
