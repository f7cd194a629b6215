/- works. -/
import Derived.Test.YtlfcmedhadfheaaAutTw
import Derived.Test.YtlfcmedhadfheaaAutSt
import Derived.Test.YtlfcmedhadfheaaAutNw
import Derived.Test.YtlfcmedhadfheaaAutRt
import Derived.BigQuiet
namespace Go.Proofs.Ytlfcmedhadfheaa
open Go.RowKit
set_option linter.unusedVariables false
set_option linter.unusedSimpArgs false
def fd (cl no re ak ca rq : Nat) : FD := ⟨cl, no, re, ak, ca, rq⟩
def wS1 : AS := stepS twoT (fd 7 0 0 1 0 0) as0
def wS2 : AS := stepS twoT (fd 7 1 0 0 0 0) wS1
theorem two_check : checkE twoT = 0 := by decide +kernel
theorem two_o1 : orderS twoT (fd 7 0 0 1 0 0) wS1 = ⟨0, 1, 0, 1⟩ := by kernel_rfl
theorem two_o2 : orderS twoT (fd 7 1 0 0 0 0) wS2 = ⟨1, 1, 0, 1⟩ := by kernel_rfl
theorem two_r : wS2.at 2 0 = ⟨1, 0, 0, 0⟩ := by kernel_rfl
theorem two_tok : TOk twoT ∧ 0 < twoT.rts.length := tok_of two_check (fun n hn => by match n, hn with | 0, _ => decide | 1, _ => decide)
theorem Only.toBelow {M : Nat → Prop} {B : Nat} {a b c : World} (h : Below B a b) (k : Only M b c) (hM : ∀ i, M i → B ≤ i) (hB : B ≤ b.heap.size) : Below B a c :=
  ⟨k.os.trans h.os, k.tape.trans h.tape, k.output.trans h.output, Nat.le_trans h.size k.size, fun i hi => (k.block i (Nat.lt_of_lt_of_le hi hB) (fun hm => by have := hM i hm; omega)).trans (h.block i hi)⟩
theorem Au.M_lt {w : World} {u : Au} {S : AS} {B : Nat} (h : AutoAt w u S) (hB : B ≤ u.w0.heap.size) : ∀ i, u.M i → B ≤ i := fun i hi => by
  have := h.rB; have := h.pB
  rcases hi with rfl | rfl <;> omega
theorem as0_ok : as0.Ok := ⟨fun _ => ⟨by show 0 < _; omega, by show 0 < _; omega, by show 0 < _; omega, by show 0 < _; omega⟩, fun _ => by show 0 < _; omega⟩
set_option maxRecDepth 100000 in
set_option maxHeartbeats 8000000 in
theorem works_any (w : World) :
    Calls Try.prog 10 #[] w fun e w' => e = .returned (.bool true) ∧ Below w.heap.size w w' := by
  have HF1 : Hid ((fd 7 0 0 1 0 0).Ok) := ⟨by decide, by decide, by decide, by decide, by decide, by decide⟩
  have HF2 : Hid ((fd 7 1 0 0 0 0).Ok) := ⟨by decide, by decide, by decide, by decide, by decide, by decide⟩
  have HTW := Lib.hid (two_any w)
  go_enter Try.func10, Try.ntmps10
  go_wp2_with fail
  refine HTW.out.mono ?_
  rintro e w1 ⟨v, rfl, hv, hb1⟩
  have B1 := Lib.hid hb1
  have HN := Lib.hid (new_any v twoT w1 hv (fun r hr => by rcases List.mem_cons.1 hr with rfl | hr; (· decide); (· rcases List.mem_cons.1 hr with rfl | hr; (· decide); (· cases hr))) (fun _ => two_tok))
  clear hb1 hv
  go_wp2_with fail
  refine HN.out.mono ?_
  rintro e w2 ⟨hb2, hif⟩
  rw [if_pos two_check] at hif
  obtain ⟨u, rfl, hA, hT, h0, _⟩ := hif
  have B2 := Lib.hid (B1.out.trans (hb2.mono B1.out.size))
  have HU := Lib.hid h0; have HT := Lib.hid hT; have A2 := Lib.hid hA
  have HUB : Hid (w.heap.size ≤ u.w0.heap.size) := Nat.le_trans B1.out.size h0
  have HS := Lib.hid (fun W hW => step_any u as0 (fd 7 0 0 1 0 0) W hW HF1.out (by rw [hT]; exact two_tok.1) as0_ok)
  clear hb2 h0 hT hA
  go_wp2_with fail
  refine (HS.out _ A2.out).mono ?_
  rintro e w3 ⟨he, hA, hO⟩
  rw [HT.out] at he hA
  have he2 : e = .returned (.agg #[.int .u32 0, .int .u32 1, .int .u32 0, .int .u32 1]) := he.trans (congrArg (fun o => Ending.returned (OD.val o)) two_o1)
  subst he2
  have A3 : Hid (AutoAt w3 u wS1) := hA
  have O3 := Lib.hid hO
  have B3 : Hid (Below w.heap.size w w3) := Only.toBelow B2.out hO (Au.M_lt hA HUB.out) B2.out.size
  clear he hA hO
  go_upto_region 5 with fail
  obtain ⟨w4, hw4⟩ : ∃ w4, w4 = w3.alloc (.cells #[.int .u32 0, .int .u32 1, .int .u32 0, .int .u32 1] 36) := ⟨_, rfl⟩
  rw [← hw4]
  have B34 : Hid (Below w3.heap.size w3 w4) := by rw [hw4]; exact tb_alloc_below _ _
  have K4 : Hid (w4.heap[w3.heap.size]? = some (.cells #[.int .u32 0, .int .u32 1, .int .u32 0, .int .u32 1] 36 (0, 0))) := by rw [hw4]; exact heap_alloc_new _ _
  have B4 : Hid (Below w.heap.size w w4) := B3.out.trans (B34.out.mono B3.out.size)
  have A4 : Hid (AutoAt w4 u wS1) := A3.out.below B34.out
  have HRB := Lib.hid A3.out.rlt; have HPB := Lib.hid A3.out.pl
  clear hw4
  have HS2 : Hid (∀ W, AutoAt W u wS1 → Calls Try.prog 13 #[.pointer (some ⟨u.g, 0, none⟩), .agg #[.int .u32 7, .int .u32 1, .int .u32 0, .int .u32 0, .int .u32 0, .int .u32 0]] W fun e w' => e = .returned (.agg #[.int .u32 1, .int .u32 1, .int .u32 0, .int .u32 1]) ∧ AutoAt w' u wS2 ∧ Only u.M W w') := fun W hW => by
    refine (step_any u wS1 (fd 7 1 0 0 0 0) W hW HF2.out (by rw [HT.out]; exact two_tok.1) (stepS_ok two_tok.1 _ as0_ok)).mono ?_
    rintro e V ⟨he, hA, hO⟩
    rw [HT.out] at he hA
    exact ⟨he.trans (congrArg (fun o => Ending.returned (OD.val o)) two_o2), hA, hO⟩
  go_wp2_with fail
  refine (HS2.out _ A4.out).mono ?_
  rintro e w5 ⟨rfl, hA, hO⟩
  have A5 : Hid (AutoAt w5 u wS2) := hA
  have B5 : Hid (Below w.heap.size w w5) := Only.toBelow B4.out hO (Au.M_lt hA HUB.out) B4.out.size
  have K5 : Hid (w5.heap[w3.heap.size]? = some (.cells #[.int .u32 0, .int .u32 1, .int .u32 0, .int .u32 1] 36 (0, 0))) := (hO.block _ (heap_lt K4.out) (fun hm => by have := HRB.out; have := HPB.out; rcases hm with h | h <;> omega)).trans K4.out
  clear hA hO
  obtain ⟨b3, hb3⟩ : ∃ b, b = w3.heap.size := ⟨_, rfl⟩
  rw [← hb3] at K5 ⊢
  clear hb3
  go_upto_region 6 with fail
  obtain ⟨w6, hw6⟩ : ∃ w6, w6 = w5.alloc (.cells #[.int .u32 1, .int .u32 1, .int .u32 0, .int .u32 1] 36) := ⟨_, rfl⟩
  rw [← hw6]
  have B56 : Hid (Below w5.heap.size w5 w6) := by rw [hw6]; exact tb_alloc_below _ _
  have K6 : Hid (w6.heap[w5.heap.size]? = some (.cells #[.int .u32 1, .int .u32 1, .int .u32 0, .int .u32 1] 36 (0, 0))) := by rw [hw6]; exact heap_alloc_new _ _
  have B6 : Hid (Below w.heap.size w w6) := B5.out.trans (B56.out.mono B5.out.size)
  have KK := Lib.hid (tb_kept K5.out B56.out)
  have HR : Hid (Calls Try.prog 15 #[.pointer (some ⟨u.g, 0, none⟩), .int .i64 0] w6 fun e w' => e = .returned (.agg #[.int .u8 1, .int .u16 0, .int .u32 0, .int .u32 0]) ∧ Below w6.heap.size w6 w') := by
    refine (route_at u wS2 0 w6 (A5.out.below B56.out) (by rw [HT.out]; decide)).mono ?_
    rintro e V ⟨he, hb⟩
    rw [HT.out] at he
    exact ⟨he.trans (congrArg (fun o => Ending.returned (RS.val o)) two_r), hb⟩
  clear hw6
  have c0 := cell_row (j := 0) KK.out rfl
  have c1 := cell_row (j := 1) KK.out rfl
  have c2 := cell_row (j := 2) KK.out rfl
  have c3 := cell_row (j := 3) KK.out rfl
  have d0 := cell_row (j := 0) K6.out rfl
  have d1 := cell_row (j := 1) K6.out rfl
  have d2 := cell_row (j := 2) K6.out rfl
  have d3 := cell_row (j := 3) K6.out rfl
  have l1 := heap_lt KK.out; have l2 := heap_lt K6.out
  go_wp2_with fail
  refine HR.out.mono ?_
  rintro e w7 ⟨rfl, hb⟩
  have B7 := Lib.hid (B6.out.trans (hb.mono B6.out.size))
  clear hb
  have hf : ∀ W, (Instr.field 48 (.agg #[.int .u8 1, .int .u16 0, .int .u32 0, .int .u32 0]) 0).run Try.prog W = .ok (.int .u8 1) W := fun W => by kernel_rfl
  go_wp2_with fail
  go_ret
  exact ⟨rfl, B7.out⟩
end Go.Proofs.Ytlfcmedhadfheaa
