/- FrameApart, whole. -/
import Derived.Test.YthbieplfphignaaFraApW
namespace Go.Proofs.Ythbieplfphignaa
open Go.RowKit Go.Shelf
set_option linter.unusedVariables false
set_option maxHeartbeats 8000000 in
theorem apart_out (L sw : Nat) (a : Option Addr) (len cap : Nat) (S : Nat → SlotR) (parts : Int) (k ch : Nat) (w : World) (hm : len ≤ 9223372036854775807) (hL : L < 4294967296) (hsw : sw < 4294967296) (hq0 : -9223372036854775808 ≤ parts) (hq1 : parts ≤ 9223372036854775807) (hS : SlotsAt w a len S) (h : 2000 < len ∨ chkV S L sw len parts ≠ 0 ∨ 549755813888 ≤ k) :
    Calls Try.prog 6 #[.agg #[.int .u32 (L : Int), .int .u32 (sw : Int), .slice a len cap], .int .i64 parts, .int .u64 (k : Int), .int .u32 (ch : Int)] w fun e W' => e = .returned (.bool true) ∧ Below w.heap.size w W' := by
  have HH := Lib.hid h
  have HC := Lib.hid (fun W hW => check_any L sw a len cap S parts W hm hL hsw hq0 hq1 (hS.below hW))
  have KN := Lib.hid (keptA_new w L sw a len cap k ch)
  clear h hS
  generalize chkV S L sw len parts = cv at *
  go_enter Try.func6, Try.ntmps6
  go_wp2_with fail
  generalize (((w.alloc (.cells #[.int .u32 (L : Int), .int .u32 (sw : Int), .slice a len cap] 25)).alloc (.cells #[.int .u64 (k : Int)] 26)).alloc (.cells #[.int .u32 (ch : Int)] 22)).alloc (.cells #[.bool false] 4) = w0 at *
  refine (known_any w0).mono ?_
  rintro e w1 ⟨rfl, hb⟩
  have K1 := Lib.hid (KN.out.below hb)
  clear hb KN
  have d0 : w1.cell? ⟨w.heap.size, 0, none⟩ = some (.int .u32 (L : Int)) := K1.out.d.cell 0 _ rfl
  have d1 : w1.cell? ⟨w.heap.size, 1, none⟩ = some (.int .u32 (sw : Int)) := K1.out.d.cell 1 _ rfl
  have d2 : w1.cell? ⟨w.heap.size, 2, none⟩ = some (.slice a len cap) := K1.out.d.cell 2 _ rfl
  have d4 : w1.cell? ⟨w.heap.size + 1, 0, none⟩ = some (.int .u64 (k : Int)) := K1.out.k.cell
  have d5 : w1.frozen? ⟨w.heap.size + 1 + 1 + 1, 0, none⟩ = false := K1.out.r.frozen
  have d6 : w1.cell? ⟨w.heap.size + 1 + 1 + 1, 0, none⟩ = some (.bool false) := K1.out.r.cell
  go_wp2_with fail
  clear d0 d1 d2 d4 d5 d6
  cases t1 : decide (2000 < (len : Int))
  case true =>
    refine (great_any L sw a len cap true w1 t1).mono ?_
    rintro e w2 ⟨rfl, hb⟩
    have K2 := Lib.hid (K1.out.below hb)
    clear hb t1
    have d0 : w2.cell? ⟨w.heap.size, 0, none⟩ = some (.int .u32 (L : Int)) := K2.out.d.cell 0 _ rfl
    have d1 : w2.cell? ⟨w.heap.size, 1, none⟩ = some (.int .u32 (sw : Int)) := K2.out.d.cell 1 _ rfl
    have d2 : w2.cell? ⟨w.heap.size, 2, none⟩ = some (.slice a len cap) := K2.out.d.cell 2 _ rfl
    have d4 : w2.cell? ⟨w.heap.size + 1, 0, none⟩ = some (.int .u64 (k : Int)) := K2.out.k.cell
    have d5 : w2.frozen? ⟨w.heap.size + 1 + 1 + 1, 0, none⟩ = false := K2.out.r.frozen
    have d6 : w2.cell? ⟨w.heap.size + 1 + 1 + 1, 0, none⟩ = some (.bool false) := K2.out.r.cell
    go_wp2_with fail
    have hc5 : (w2.setCell ⟨w.heap.size + 1 + 1 + 1, 0, none⟩ (.bool true)).cell? ⟨w.heap.size + 1 + 1 + 1, 0, none⟩ = some (.bool true) := (K2.out.r.set (.bool true)).cell
    refine bodyPost_ret (v := .bool true) (by simp [results, Try.f6, go_sem, hc5]) rfl ⟨rfl, K2.out.b.setCell (p := ⟨w.heap.size + 1 + 1 + 1, 0, none⟩) (by simp; omega) _⟩
  case false =>
    refine (great_any L sw a len cap false w1 t1).mono ?_
    rintro e w2 ⟨rfl, hb⟩
    have K2 := Lib.hid (K1.out.below hb)
    have hl : ¬ 2000 < len := by have := of_decide_eq_false t1; omega
    clear hb t1
    have d0 : w2.cell? ⟨w.heap.size, 0, none⟩ = some (.int .u32 (L : Int)) := K2.out.d.cell 0 _ rfl
    have d1 : w2.cell? ⟨w.heap.size, 1, none⟩ = some (.int .u32 (sw : Int)) := K2.out.d.cell 1 _ rfl
    have d2 : w2.cell? ⟨w.heap.size, 2, none⟩ = some (.slice a len cap) := K2.out.d.cell 2 _ rfl
    have d4 : w2.cell? ⟨w.heap.size + 1, 0, none⟩ = some (.int .u64 (k : Int)) := K2.out.k.cell
    have d5 : w2.frozen? ⟨w.heap.size + 1 + 1 + 1, 0, none⟩ = false := K2.out.r.frozen
    have d6 : w2.cell? ⟨w.heap.size + 1 + 1 + 1, 0, none⟩ = some (.bool false) := K2.out.r.cell
    go_wp2_with fail
    clear d0 d1 d2 d4 d5 d6
    refine (HC.out w2 K2.out.b).mono ?_
    rintro e w3 ⟨rfl, hb⟩
    have K3 := Lib.hid (K2.out.below hb)
    clear hb
    have d0 : w3.cell? ⟨w.heap.size, 0, none⟩ = some (.int .u32 (L : Int)) := K3.out.d.cell 0 _ rfl
    have d1 : w3.cell? ⟨w.heap.size, 1, none⟩ = some (.int .u32 (sw : Int)) := K3.out.d.cell 1 _ rfl
    have d2 : w3.cell? ⟨w.heap.size, 2, none⟩ = some (.slice a len cap) := K3.out.d.cell 2 _ rfl
    have d4 : w3.cell? ⟨w.heap.size + 1, 0, none⟩ = some (.int .u64 (k : Int)) := K3.out.k.cell
    have d5 : w3.frozen? ⟨w.heap.size + 1 + 1 + 1, 0, none⟩ = false := K3.out.r.frozen
    have d6 : w3.cell? ⟨w.heap.size + 1 + 1 + 1, 0, none⟩ = some (.bool false) := K3.out.r.cell
    by_cases hcv : cv = 0
    · subst hcv
      have t3 : decide (549755813888 ≤ (k : Int)) = true := by
        have := HH.out; simp; omega
      go_wp2_with fail
      have hc5 : (w3.setCell ⟨w.heap.size + 1 + 1 + 1, 0, none⟩ (.bool true)).cell? ⟨w.heap.size + 1 + 1 + 1, 0, none⟩ = some (.bool true) := (K3.out.r.set (.bool true)).cell
      refine bodyPost_ret (v := .bool true) (by simp [results, Try.f6, go_sem, hc5]) rfl ⟨rfl, K3.out.b.setCell (p := ⟨w.heap.size + 1 + 1 + 1, 0, none⟩) (by simp; omega) _⟩
    · have t2 : (cv == 0) = false := by simpa using hcv
      have t4 : (cv != 0) = true := by simpa using hcv
      clear hcv
      go_wp2_with fail
      have hc5 : (w3.setCell ⟨w.heap.size + 1 + 1 + 1, 0, none⟩ (.bool true)).cell? ⟨w.heap.size + 1 + 1 + 1, 0, none⟩ = some (.bool true) := (K3.out.r.set (.bool true)).cell
      refine bodyPost_ret (v := .bool true) (by simp [results, Try.f6, go_sem, hc5]) rfl ⟨rfl, K3.out.b.setCell (p := ⟨w.heap.size + 1 + 1 + 1, 0, none⟩) (by simp; omega) _⟩
theorem apart_walk (v : Value) (parts k ch : Int) (w : World) (w0 : ReadsC w 25 v.cells.toList ∧ Value.okWide Try.prog w .any 0 25 v)
    (w1 : (Lit.int .i64 parts).wf = true) (w2 : (Lit.int .u64 k).wf = true) (w3 : (Lit.int .u32 ch).wf = true) :
    Calls Try.prog 6 #[v, .int .i64 parts, .int .u64 k, .int .u32 ch] w fun e w' => e = .returned (.bool true) ∧ Below w.heap.size w w' := by
  obtain ⟨L, sw, a, len, cap, S, rfl, h1, h2, h3, h4, h5⟩ := frame_value w0
  obtain ⟨p0, p1⟩ := bounds_i64 w1
  obtain ⟨c0, c1⟩ := bounds_u32 w3
  have hk : 0 ≤ k ∧ k ≤ 18446744073709551615 := by simpa [Lit.wf, IntKind.min, IntKind.max, IntKind.bits, IntKind.signed] using w2
  obtain ⟨k', rfl⟩ := Int.eq_ofNat_of_zero_le hk.1
  obtain ⟨c', rfl⟩ := Int.eq_ofNat_of_zero_le c0
  unfold maxLen at h4
  by_cases h : 2000 < len ∨ chkV S L sw len parts ≠ 0 ∨ 549755813888 ≤ k'
  · exact apart_out L sw a len cap S parts k' c' w (by omega) h1 h2 p0 p1 h5 h
  · have h0 : chkV S L sw len parts = 0 := Classical.byContradiction fun hne => h (.inr (.inl hne))
    exact (callsIn_wide (n := 6)).1 (apart_ok 6 (Nat.le_refl _) L sw a len cap S parts k' c' w (by omega) h1 h2 p0 p1 (by omega) (by omega) h5 h0)
end Go.Proofs.Ythbieplfphignaa
