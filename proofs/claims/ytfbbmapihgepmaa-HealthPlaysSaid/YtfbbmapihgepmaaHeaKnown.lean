/- The statements' own small check of the monitor returns true. -/
import Derived.Test.YtfbbmapihgepmaaHeaMon
namespace Go.Proofs.Ytfbbmapihgepmaa
open Go.RowKit
set_option linter.unusedVariables false
def kD (i : Nat) : HDef := if i = 0 then { trap := 1, over := 2, lim := 2 } else { trap := 3, over := 1, lim := 0 }
def kS0 : HMon := newMon kD 2 2
def kS1 : HMon := kS0.event 0 4
def kS2 : HMon := kS1.event 0 4
def kS3 : HMon := kS2.event 0 4
def kS4 : HMon := kS3.event 1 3
def kS5 : HMon := rstMon kS4 8
theorem event_runs2 (g : Nat) (S S' : HMon) (i kind a : Nat) (r1 r2 r3 : Value) (w : World) (h : MonAt w g S) (hn8 : S.n ≤ 8) (hr : S.runs (i : Int) = true) (hk : kind < 256)
    (ht : (S.l i).d.trap < 256) (ho : (S.l i).d.over < 256) (hl : (S.l i).d.lim < 256) (hrs : (S.l i).rs < 1000000) (ha : (S.l i).act kind = a) (hS : S.event i kind = S') :
    Calls Try.prog 10 #[.pointer (some ⟨g, 0, none⟩), .int .i64 (i : Int), .agg #[.int .u8 (kind : Int), r1, r2, r3]] w fun e w' => e = .returned (.tuple #[.int .u8 (a : Int), .int .i64 0]) ∧ MonAt w' g S' ∧ w.grownBy w' (some g) := by
  subst ha hS
  exact event_runs g S i kind r1 r2 r3 w h hn8 hr hk ht ho hl hrs
theorem restarts_is (g : Nat) (S : HMon) (p : Int) (n : Nat) (w : World) (h : MonAt w g S) (hn8 : S.n ≤ 8) (hp : S.rst p = n) : Calls Try.prog 18 #[.pointer (some ⟨g, 0, none⟩), .int .i64 p] w fun e w' => e = .returned (.int .u32 (n : Int)) ∧ w = w' := by
  subst hp; exact restarts_any g S p w h hn8
theorem runs_is (g : Nat) (S : HMon) (p : Int) (b : Bool) (w : World) (h : MonAt w g S) (hn8 : S.n ≤ 8) (hp : S.runs p = b) : Calls Try.prog 16 #[.pointer (some ⟨g, 0, none⟩), .int .i64 p] w fun e w' => e = .returned (.bool b) ∧ w = w' := by
  subst hp; exact runs_any g S p w h hn8
theorem kDefs (w : World) (b : Nat) (fr : Nat × Nat) (t : TypeId) (hb : w.heap[b]? = some (.cells #[.int .u8 1, .int .u8 2, .int .u8 2, .int .u8 3, .int .u8 1, .int .u8 0] t fr)) : DefsAt w (some ⟨b, 0, none⟩) 2 kD := by
  refine ⟨.inr ⟨b, 0, rfl, heap_lt hb, fun i hi j hj => ?_⟩, fun i hi => ?_⟩
  · rw [Nat.zero_add]
    refine cell_row hb ?_
    match i, hi, j, hj with
    | 0, _, 0, _ => rfl | 0, _, 1, _ => rfl | 0, _, 2, _ => rfl | 1, _, 0, _ => rfl | 1, _, 1, _ => rfl | 1, _, 2, _ => rfl
  · match i, hi with
    | 0, _ => exact ⟨by decide, by decide, by decide⟩
    | 1, _ => exact ⟨by decide, by decide, by decide⟩
set_option maxHeartbeats 4000000 in
set_option maxRecDepth 100000 in
theorem known_any (w : World) : Calls Try.prog 6 #[] w fun e w' => e = .returned (.bool true) ∧ Below w.heap.size w w' := by
  go_enter Try.func6, Try.ntmps6
  go_wp2_with fail
  refine (new_good _ 2 2 kD _ (by omega) (kDefs _ _ _ _ (heap_alloc_new _ _)) rfl).mono ?_
  rintro e w1 ⟨g, rfl, h1, h2, hM, hB⟩
  have B1 : Hid (Below w.heap.size w w1) := ((Below.refl _ _).alloc (Nat.le_refl _) _).trans (hB.mono (by simp))
  have M1 : Hid (MonAt w1 g kS0) := hM
  have hg : w.heap.size ≤ g := by simp at h1; omega
  clear h1 h2 hM hB
  go_wp2_with fail
  have M1b : Hid (MonAt (w1.alloc (.cells #[.int .u8 2, .int .u8 2, .int .u8 1] 5)) g kS0) := M1.out.alloc _
  have B1b : Hid (Below w.heap.size w (w1.alloc (.cells #[.int .u8 2, .int .u8 2, .int .u8 1] 5))) := B1.out.alloc B1.out.size _
  refine wp_loop_rounds 4 ?_
  have Q1 : Hid ((w1.alloc (.cells #[.int .u8 2, .int .u8 2, .int .u8 1] 5)).heap[w1.heap.size]? = some (.cells #[.int .u8 2, .int .u8 2, .int .u8 1] 5 (0, 0))) := heap_alloc_new _ _
  have hgl : g < w1.heap.size := heap_lt M1.out
  rw [rounds_succ]
  go_wp2_with fail
  refine (event_runs2 g kS0 kS1 0 4 2 _ _ _ _ M1b.out (by decide) (by decide) (by decide) (by decide) (by decide) (by decide) (by decide) (by decide) rfl).mono ?_
  rintro e w2 ⟨rfl, hM, hg2⟩
  have M2 := Lib.hid hM
  have B2 : Hid (Below w.heap.size w w2) := B1b.out.grown hg2 B1b.out.size (by intro k hk; simp at hk; omega)
  have Q2 : Hid (w2.heap[w1.heap.size]? = some (.cells #[.int .u8 2, .int .u8 2, .int .u8 1] 5 (0, 0))) := (hg2.block _ (heap_lt Q1.out) (by intro he; simp at he; omega)).trans Q1.out
  have q2 : w2.cell? ⟨w1.heap.size, 1, none⟩ = some (.int .u8 2) := cell_row Q2.out rfl
  have r2 : w2.cell? ⟨w1.heap.size, 2, none⟩ = some (.int .u8 1) := cell_row Q2.out rfl
  clear hM hg2
  go_wp2_with fail
  rw [rounds_succ]
  go_wp2_with fail
  refine (event_runs2 g kS1 kS2 0 4 2 _ _ _ _ M2.out (by decide) (by decide) (by decide) (by decide) (by decide) (by decide) (by decide) (by decide) rfl).mono ?_
  rintro e w3 ⟨rfl, hM, hg2⟩
  have M3 := Lib.hid hM
  have B3 : Hid (Below w.heap.size w w3) := B2.out.grown hg2 B2.out.size (by intro k hk; simp at hk; omega)
  have Q3 : Hid (w3.heap[w1.heap.size]? = some (.cells #[.int .u8 2, .int .u8 2, .int .u8 1] 5 (0, 0))) := (hg2.block _ (heap_lt Q2.out) (by intro he; simp at he; omega)).trans Q2.out
  have q3 : w3.cell? ⟨w1.heap.size, 1, none⟩ = some (.int .u8 2) := cell_row Q3.out rfl
  have r3 : w3.cell? ⟨w1.heap.size, 2, none⟩ = some (.int .u8 1) := cell_row Q3.out rfl
  clear hM hg2
  go_wp2_with fail
  rw [rounds_succ]
  go_wp2_with fail
  refine (event_runs2 g kS2 kS3 0 4 1 _ _ _ _ M3.out (by decide) (by decide) (by decide) (by decide) (by decide) (by decide) (by decide) (by decide) rfl).mono ?_
  rintro e w4 ⟨rfl, hM, hg2⟩
  have M4 := Lib.hid hM
  have B4 : Hid (Below w.heap.size w w4) := B3.out.grown hg2 B3.out.size (by intro k hk; simp at hk; omega)
  have Q4 : Hid (w4.heap[w1.heap.size]? = some (.cells #[.int .u8 2, .int .u8 2, .int .u8 1] 5 (0, 0))) := (hg2.block _ (heap_lt Q3.out) (by intro he; simp at he; omega)).trans Q3.out
  have q4 : w4.cell? ⟨w1.heap.size, 1, none⟩ = some (.int .u8 2) := cell_row Q4.out rfl
  have r4 : w4.cell? ⟨w1.heap.size, 2, none⟩ = some (.int .u8 1) := cell_row Q4.out rfl
  clear hM hg2
  go_wp2_with fail
  rw [rounds_succ]
  go_wp2_with fail
  refine (event_state g kS3 0 _ _ _ _ _ M4.out (by decide) (by decide) (by decide)).mono ?_
  rintro e w5 ⟨rfl, hB⟩
  have B5 : Hid (Below w.heap.size w w5) := B4.out.trans (hB.mono B4.out.size)
  have M5 : Hid (MonAt w5 g kS3) := M4.out.below hB
  clear hB
  go_wp2_with fail
  refine (runs_is g kS3 0 false _ M5.out (by decide) (by decide)).mono ?_
  rintro e w5' ⟨rfl, rfl⟩
  go_wp2_with fail
  refine (runs_is g kS3 1 true _ M5.out (by decide) (by decide)).mono ?_
  rintro e w5' ⟨rfl, rfl⟩
  go_wp2_with fail
  refine (restarts_is g kS3 0 2 _ M5.out (by decide) (by decide)).mono ?_
  rintro e w5' ⟨rfl, rfl⟩
  go_wp2_with fail
  refine (event_runs2 g kS3 kS4 1 3 3 _ _ _ _ M5.out (by decide) (by decide) (by decide) (by decide) (by decide) (by decide) (by decide) (by decide) rfl).mono ?_
  rintro e w6 ⟨rfl, hM, hg2⟩
  have M6 := Lib.hid hM
  have B6 : Hid (Below w.heap.size w w6) := B5.out.grown hg2 B5.out.size (by intro k hk; simp at hk; omega)
  clear hM hg2
  go_wp2_with fail
  refine (safe_any g kS4 _ M6.out).mono ?_
  rintro e w6' ⟨rfl, rfl⟩
  rw [show kS4.safe = true from by decide]
  go_wp2_with fail
  refine (runs_is g kS4 1 false _ M6.out (by decide) (by decide)).mono ?_
  rintro e w6' ⟨rfl, rfl⟩
  go_wp2_with fail
  refine (reset_any g kS4 _ M6.out).mono ?_
  rintro e w7 ⟨rfl, hM, hg2⟩
  have M7 : Hid (MonAt w7 g kS5) := hM
  have B7 : Hid (Below w.heap.size w w7) := B6.out.grown hg2 B6.out.size (by intro k hk; simp at hk; omega)
  clear hM hg2
  go_wp2_with fail
  refine (fail_nil _).mono ?_
  rintro e w7' ⟨rfl, rfl⟩
  go_wp2_with fail
  refine (reset_nil _).mono ?_
  rintro e w7' ⟨rfl, rfl⟩
  go_wp2_with fail
  refine (event_nil 0 _ _ _ _ _).mono ?_
  rintro e w8 ⟨rfl, hB⟩
  have B8 : Hid (Below w.heap.size w w8) := B7.out.trans (hB.mono B7.out.size)
  have M8 : Hid (MonAt w8 g kS5) := M7.out.below hB
  clear hB
  go_wp2_with fail
  refine (runs_is g kS5 0 true _ M8.out (by decide) (by decide)).mono ?_
  rintro e w8' ⟨rfl, rfl⟩
  go_wp2_with fail
  refine (restarts_is g kS5 0 0 _ M8.out (by decide) (by decide)).mono ?_
  rintro e w8' ⟨rfl, rfl⟩
  go_wp2_with fail
  refine (runs_nil 0 _).mono ?_
  rintro e w8' ⟨rfl, rfl⟩
  go_wp2_with fail
  refine (safe_nil _).mono ?_
  rintro e w8' ⟨rfl, rfl⟩
  go_wp2_with fail
  refine (restarts_nil 0 _).mono ?_
  rintro e w8' ⟨rfl, rfl⟩
  go_wp2_with fail
  refine (copy_nil _).mono ?_
  rintro e w8' ⟨rfl, rfl⟩
  go_wp2_with fail
  go_ret
  exact ⟨rfl, B8.out⟩
end Go.Proofs.Ytfbbmapihgepmaa
