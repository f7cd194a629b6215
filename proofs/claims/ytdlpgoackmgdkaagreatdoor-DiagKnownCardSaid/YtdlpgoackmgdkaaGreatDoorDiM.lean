/- same: equal rows of changes. -/
import Derived.Test.YtdlpgoackmgdkaaGreatDoorDiL
namespace Go.Proofs.YtdlpgoackmgdkaaGreatDoor
open Go.RowKit Go.Shelf
set_option linter.unusedVariables false
set_option linter.unusedSimpArgs false
set_option maxRecDepth 100000 in
set_option maxHeartbeats 4000000 in
theorem same29_any (l : List Int) (xs : List (Nat × Nat)) (a b : Option Addr) (ca cb n : Nat) (w : World) (hn : n = xs.length) (ha : ChAt w a l xs) (hb : ChAt w b l xs) (h1 : n ≤ 9223372036854775807) :
    Calls Tryz.prog 31 #[.slice a n ca, .slice b n cb] w fun e w' => e = .returned (.bool true) ∧ Below w.heap.size w w' := by
  have HA : Hid (∀ W, Below w.heap.size w W → ∀ i, i < n → ∃ p q, a = some ⟨p, q, none⟩ ∧ p < w.heap.size ∧ W.cell? ⟨p, q + i * 2, none⟩ = some (.int .i64 (l.getD (xs.getD i (0, 0)).1 0)) ∧ W.cell? ⟨p, q + i * 2 + 1, none⟩ = some (.int .u32 ((xs.getD i (0, 0)).2 : Int))) := fun W hW i hi => by
    obtain ⟨p, q, e, hp, hc⟩ := SliceN.at ha (by omega)
    refine ⟨p, q, e, hp, ?_, ?_⟩
    · have := hc i (by omega) 0 (by decide); exact (hW.cell hp).trans this
    · have := hc i (by omega) 1 (by decide); exact (hW.cell hp).trans this
  have HB : Hid (∀ W, Below w.heap.size w W → ∀ i, i < n → ∃ p q, b = some ⟨p, q, none⟩ ∧ p < w.heap.size ∧ W.cell? ⟨p, q + i * 2, none⟩ = some (.int .i64 (l.getD (xs.getD i (0, 0)).1 0)) ∧ W.cell? ⟨p, q + i * 2 + 1, none⟩ = some (.int .u32 ((xs.getD i (0, 0)).2 : Int))) := fun W hW i hi => by
    obtain ⟨p, q, e, hp, hc⟩ := SliceN.at hb (by omega)
    refine ⟨p, q, e, hp, ?_, ?_⟩
    · have := hc i (by omega) 0 (by decide); exact (hW.cell hp).trans this
    · have := hc i (by omega) 1 (by decide); exact (hW.cell hp).trans this
  clear ha hb hn
  go_enter Tryz.func31, Tryz.ntmps31
  go_wp2_with fail
  go_loopw [14] (fun i wr => ∃ k : Nat, k ≤ n ∧ i = .int .i64 (k : Int) ∧ Hid (Below w.heap.size w wr)) (fun i _ => n - (intOf i).toNat)
  case atStart => exact ⟨0, Nat.zero_le _, rfl, Below.refl _ _⟩
  case round =>
    obtain ⟨k, hk, rfl, BB⟩ := hrel
    rcases Nat.lt_or_ge k n with hk2 | hk2
    case inr =>
      obtain rfl : k = n := by omega
      have t2 : decide ((k : Int) < (k : Int)) = false := by simp
      go_wp2_with fail
      go_ret
      exact ⟨rfl, BB.out⟩
    have t2 : decide ((k : Int) < (n : Int)) = true := decide_eq_true (by omega)
    obtain ⟨p, q, rfl, hp, x0, x1⟩ := HA.out wr BB.out k hk2
    obtain ⟨p2, q2, rfl, hp2, y0, y1⟩ := HB.out wr BB.out k hk2
    have HY := Lib.hid (fun W hW => (HB.out W hW k hk2))
    generalize l.getD (xs.getD k (0, 0)).1 0 = vx at *
    generalize (xs.getD k (0, 0)).2 = vy at *
    have i1 : (k : Int) < (n : Int) := by omega
    have l1 : p < wr.heap.size := Nat.lt_of_lt_of_le hp BB.out.size
    have l2 : p2 < wr.heap.size := Nat.lt_of_lt_of_le hp2 BB.out.size
    go_upto_region 6 with fail
    obtain ⟨wn, hwn⟩ : ∃ x, x = wr.alloc (.cells #[.int .i64 vx, .int .u32 (vy : Int)] 79) := ⟨_, rfl⟩
    obtain ⟨g, hg⟩ : ∃ g, g = wr.heap.size := ⟨_, rfl⟩
    have KN : wn.heap[g]? = some (.cells #[.int .i64 vx, .int .u32 (vy : Int)] 79 (0, 0)) := by rw [hwn, hg]; exact heap_alloc_new _ _
    have BN : Hid (Below w.heap.size w wn) := by rw [hwn]; exact BB.out.alloc BB.out.size _
    have z0 : wn.cell? ⟨g, 0, none⟩ = some (.int .i64 vx) := cell_row KN rfl
    have z1 : wn.cell? ⟨g, 1, none⟩ = some (.int .u32 (vy : Int)) := cell_row KN rfl
    have y0 : wn.cell? ⟨p2, q2 + k * 2, none⟩ = some (.int .i64 vx) := by rw [hwn]; exact ((alloc_below _ _).cell l2).trans y0
    have y1 : wn.cell? ⟨p2, q2 + k * 2 + 1, none⟩ = some (.int .u32 (vy : Int)) := by rw [hwn]; exact ((alloc_below _ _).cell l2).trans y1
    have l4 := heap_lt KN
    have l5 : p2 < wn.heap.size := Nat.lt_of_lt_of_le hp2 BN.out.size
    rw [← hwn, ← hg]
    have lz : q2 + k * 2 + 2 - (q2 + k * 2) = 2 := by omega
    clear hwn hg KN HA HB BB HY x0 x1 l1 l2
    go_quiet (fail)
    go_wp2_with fail
    refine ⟨⟨k + 1, by omega, by go_num, belowN BN.out _⟩, ?_⟩
    simp [intOf]; omega
end Go.Proofs.YtdlpgoackmgdkaaGreatDoor
