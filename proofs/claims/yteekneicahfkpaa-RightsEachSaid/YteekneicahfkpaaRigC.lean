/- slices.ContainsFunc with Fits. -/
import Derived.Test.YteekneicahfkpaaRigS
namespace Go.Proofs.Yteekneicahfkpaa
open Go.RowKit
set_option linter.unusedVariables false
set_option linter.unusedSimpArgs false
theorem check1_any (r : Reg) (m mb : Nat) (w : World) (h : r.ok) (hm : m < 4294967296) (hM : w.heap[mb]? = some (.cells #[.int .u32 (m : Int)] 22 (0, 0))) :
    Calls Try.prog 28 #[r.val, .pointer (some ⟨mb, 0, none⟩)] w fun e w' => e = .returned (.bool (!r.fits m)) ∧ Below w.heap.size w w' := by
  have HF := Lib.hid (fun W => fits_any r m W h hm)
  generalize r.fits m = fb at *
  clear h
  obtain ⟨b, s, t⟩ := r
  unfold Reg.val at *
  simp only at HF ⊢
  obtain ⟨w1, hw1⟩ : ∃ x, x = w.alloc (.cells #[.int .u32 (b : Int), .int .u32 (s : Int), .int .u8 (t : Int)] 24) := ⟨_, rfl⟩
  have K1 : Hid (w1.heap[w.heap.size]? = some (.cells #[.int .u32 (b : Int), .int .u32 (s : Int), .int .u8 (t : Int)] 24 (0, 0))) := by rw [hw1]; exact heap_alloc_new _ _
  have B1 : Hid (Below w.heap.size w w1) := by rw [hw1]; exact alloc_below _ _
  have M1 := Lib.hid (kept hM B1.out)
  have HW1 := Lib.hid hw1
  clear hw1 hM
  go_enter Try.func28, Try.ntmps28
  go_upto_region 1 with fail
  rw [← HW1.out]
  generalize hgb : w.heap.size = gb at *
  have z0 := cell_row (j := 0) K1.out rfl
  have z1 := cell_row (j := 1) K1.out rfl
  have z2 := cell_row (j := 2) K1.out rfl
  have z3 := heap_lt K1.out
  have m0 := cell_row (j := 0) M1.out rfl
  have m1 := heap_lt M1.out
  go_wp2_with fail
  (with_reducible refine (HF.out w1).mono ?_)
  rintro e w2 ⟨rfl, hb⟩
  have B2 : Hid (Below gb w w2) := B1.out.trans (hb.mono (Nat.le_of_lt z3))
  clear hb
  go_wp2_with fail
  go_ret
  exact ⟨rfl, by first | exact B2.out | (rw [hgb]; exact B2.out)⟩
/-- Which is the first that does not fit? -/
def badAt (L : Nat → Reg) (n m : Nat) : Option Nat := first (fun i => !(L i).fits m) n
def optI (o : Option Nat) : Int := match o with | some k => (k : Int) | none => -1
set_option maxHeartbeats 2000000 in
theorem index_any (a : Option Addr) (n c : Nat) (L : Nat → Reg) (m mb : Nat) (w : World) (hL : RegsAt w a n L) (hn : n ≤ 9223372036854775807) (hm : m < 4294967296) (hM : w.heap[mb]? = some (.cells #[.int .u32 (m : Int)] 22 (0, 0))) :
    Calls Try.prog 32 #[.slice a n c, .func (.func 28) #[] #[.pointer (some ⟨mb, 0, none⟩)]] w fun e w' => e = .returned (.int .i64 (optI (badAt L n m))) ∧ Below w.heap.size w w' := by
  have HL := Lib.hid hL; have HM := Lib.hid hM
  clear hL hM
  obtain ⟨F, hF⟩ : ∃ F, F = optI (badAt L n m) := ⟨_, rfl⟩
  rw [← hF]
  have HF := Lib.hid hF
  clear hF
  go_enter Try.func32, Try.ntmps32
  go_wp2_with fail
  go_loopw [8] (fun i wr => ∃ k : Nat, k ≤ n ∧ i = .int .i64 k ∧ (∀ j, j < k → (L j).fits m = true) ∧ Below w.heap.size w wr) (fun i _ => n - (intOf i).toNat)
  case atStart => exact ⟨0, Nat.zero_le _, rfl, fun j hj => absurd hj (by omega), Below.refl _ _⟩
  case round =>
    obtain ⟨k, hk, rfl, hno, hb⟩ := hrel
    have B1 := Lib.hid hb; have NO := Lib.hid hno
    clear hb hno
    obtain ⟨w1, rfl⟩ : ∃ w1 : World, w1 = wr := ⟨_, rfl⟩
    by_cases hlt : k < n
    · obtain ⟨sb, soff, rfl, hsl, hcells⟩ := HL.out.1.at (by omega)
      have x0 : w1.cell? ⟨sb, soff + k * 3, none⟩ = some (.int .u32 ((L k).base : Int)) := by rw [B1.out.cell hsl]; exact hcells k hlt 0 (by omega)
      have x1 : w1.cell? ⟨sb, soff + k * 3 + 1, none⟩ = some (.int .u32 ((L k).size : Int)) := by rw [B1.out.cell hsl]; exact hcells k hlt 1 (by omega)
      have x2 : w1.cell? ⟨sb, soff + k * 3 + 2, none⟩ = some (.int .u8 ((L k).rt : Int)) := by rw [B1.out.cell hsl]; exact hcells k hlt 2 (by omega)
      clear hcells
      have HC := Lib.hid (check1_any (L k) m mb w1 (HL.out.2 k) hm (kept HM.out B1.out))
      unfold Reg.val at HC
      cases hf : (L k).fits m
      case true =>
        rw [hf] at HC
        have HFt := Lib.hid hf
        clear hf
        go_wp2_with fail
        (with_reducible refine HC.out.mono ?_)
        rintro e w2 ⟨rfl, hb⟩
        have B2 := Lib.hid (B1.out.trans (hb.mono B1.out.size))
        clear hb x0 x1 x2
        go_wp2_with fail
        go_roundw
        case rel => exact ⟨k + 1, by omega, by go_num, fun j hj => (by
          by_cases e : j < k
          · exact NO.out j e
          · obtain rfl : j = k := by omega
            exact HFt.out), B2.out⟩
        case measure => simp [intOf]; omega
      case false =>
        rw [hf] at HC
        have HX : Hid (F = (k : Int)) := by
          show _ = _
          rw [HF.out]
          unfold badAt
          rw [first_some hlt (by rw [hf]; rfl) (fun j hj => by rw [NO.out j hj]; rfl)]; rfl
        clear hf
        go_wp2_with fail
        (with_reducible refine HC.out.mono ?_)
        rintro e w2 ⟨rfl, hb⟩
        have B2 := Lib.hid (B1.out.trans (hb.mono B1.out.size))
        clear hb x0 x1 x2
        go_wp2_with fail
        go_ret
        exact ⟨congrArg (fun x => Ending.returned (.int .i64 x)) HX.out.symm, B2.out⟩
    · obtain rfl : k = n := by omega
      have HX : Hid (F = -1) := by show _ = _; rw [HF.out]; unfold badAt; rw [first_none (fun j hj => by rw [NO.out j hj]; rfl)]; rfl
      go_wp2_with fail
      go_ret
      exact ⟨congrArg (fun x => Ending.returned (.int .i64 x)) HX.out.symm, B1.out⟩
theorem contains_any (a : Option Addr) (n c : Nat) (L : Nat → Reg) (m mb : Nat) (w : World) (hL : RegsAt w a n L) (hn : n ≤ 9223372036854775807) (hm : m < 4294967296) (hM : w.heap[mb]? = some (.cells #[.int .u32 (m : Int)] 22 (0, 0))) :
    Calls Try.prog 27 #[.slice a n c, .func (.func 28) #[] #[.pointer (some ⟨mb, 0, none⟩)]] w fun e w' => e = .returned (.bool (badAt L n m).isSome) ∧ Below w.heap.size w w' := by
  have HI := Lib.hid (index_any a n c L m mb w hL hn hm hM)
  cases hb : badAt L n m with
  | none =>
    rw [hb] at HI
    clear hL hM hb
    go_enter Try.func27, Try.ntmps27
    go_wp2_with fail
    (with_reducible refine HI.out.mono ?_)
    rintro e w2 ⟨rfl, hb⟩
    unfold optI
    have B2 := Lib.hid hb
    clear hb
    go_wp2_with fail
    go_ret
    exact ⟨rfl, B2.out⟩
  | some k =>
    rw [hb] at HI
    have t0 : decide (0 ≤ (k : Int)) = true := by simp
    clear hL hM hb
    go_enter Try.func27, Try.ntmps27
    go_wp2_with fail
    (with_reducible refine HI.out.mono ?_)
    rintro e w2 ⟨rfl, hb⟩
    unfold optI
    have B2 := Lib.hid hb
    clear hb
    go_wp2_with fail
    go_ret
    exact ⟨by simp, B2.out⟩
theorem badAt_none {L : Nat → Reg} {n m : Nat} (h : badAt L n m = none) : ∀ i, i < n → (L i).fits m = true := by
  intro i hi
  unfold badAt first at h
  rw [List.find?_eq_none] at h
  have := h i (by simpa using hi)
  simpa using this
end Go.Proofs.Yteekneicahfkpaa
