/- Route: what a route is. Copy. -/
import Derived.Test.YtnjeiigdfdjccaaCln
namespace Go.Proofs.Ytnjeiigdfdjccaa
open Go.RowKit
set_option linter.unusedVariables false
set_option linter.unusedSimpArgs false
def RS.val (r : RS) : Value := .agg #[.int .u8 (r.ph : Int), .int .u16 (r.tm : Int), .int .u32 (r.us : Int), .int .u32 (r.rl : Int)]
theorem route_nil (n : Int) (w : World) : Calls Try.prog 25 #[.pointer none, .int .i64 n] w fun e w' => e = .returned rs0.val ∧ Below w.heap.size w w' := by
  go_enter Try.func25, Try.ntmps25
  go_wp2_with fail
  exact bodyPost_ret (v := .agg #[.int .u8 0, .int .u16 0, .int .u32 0, .int .u32 0]) (by simp [results, Try.results25, go_sem]) rfl ⟨rfl, tb_alloc_below _ _⟩
/-- What Route answers. -/
def AS.at (S : AS) (m : Nat) (n : Int) : RS := if 0 ≤ n ∧ n < (m : Int) then S.R n.toNat else rs0
set_option maxHeartbeats 2000000 in
theorem route_at (u : Au) (S : AS) (n : Int) (w : World) (h : AutoAt w u S) (hN : u.T.rts.length ≤ 16) :
    Calls Try.prog 25 #[.pointer (some ⟨u.g, 0, none⟩), .int .i64 n] w fun e w' => e = .returned (S.at u.T.rts.length n).val ∧ Below w.heap.size w w' := by
  have H := Lib.hid h
  obtain ⟨sc, hvs, hs1, hs2, _⟩ := h.rs
  have g4 : w.cell? ⟨u.g, 4, none⟩ = some (.slice (some ⟨u.rb, 0, none⟩) u.T.rts.length sc) := by rw [← hvs]; exact cell_row (j := 4) h.obj rfl
  have lg := heap_lt h.obj
  have lr := h.rlt
  unfold maxLen at hs2
  have B1 : Hid (Below w.heap.size w (w.alloc (.cells #[.int .u8 0, .int .u16 0, .int .u32 0, .int .u32 0] 43))) := tb_alloc_below _ _
  have HAT : Hid (S.at u.T.rts.length n = if 0 ≤ n ∧ n < (u.T.rts.length : Int) then S.R n.toNat else rs0) := rfl
  rw [HAT.out]
  clear HAT hvs h
  by_cases h0 : n < 0
  · have t0 : decide (n < 0) = true := by simpa using h0
    rw [if_neg (by omega)]
    clear h0
    go_enter Try.func25, Try.ntmps25
    go_wp2_with fail
    exact bodyPost_ret (v := .agg #[.int .u8 0, .int .u16 0, .int .u32 0, .int .u32 0]) (by simp [results, Try.results25, go_sem]) rfl ⟨rfl, B1.out⟩
  · have t0 : decide (n < 0) = false := by simpa using h0
    obtain ⟨n, rfl⟩ := Int.eq_ofNat_of_zero_le (show 0 ≤ n by omega)
    by_cases h1 : n < u.T.rts.length
    · rw [if_pos (by omega), Int.toNat_natCast]
      obtain ⟨r0, r1, r2, r3, -⟩ := H.out.rcell h1
      generalize S.R n = r at *
      have q0 : (w.alloc (.cells #[.int .u8 0, .int .u16 0, .int .u32 0, .int .u32 0] 43)).heap[w.heap.size]? = some (.cells #[.int .u8 0, .int .u16 0, .int .u32 0, .int .u32 0] 43 (0, 0)) := heap_alloc_new _ _
      clear H h0
      generalize u.T.rts.length = m at *
      have i0 : (0 : Int) ≤ (n : Int) := by omega
      have i1 : (n : Int) < (m : Int) := by omega
      have t1 : decide (m ≤ n) = false := by simp; omega
      have t2 : decide ((m : Int) ≤ (n : Int)) = false := by simp; omega
      go_enter Try.func25, Try.ntmps25
      go_wp2_with fail
      exact bodyPost_ret (v := .agg #[.int .u8 (r.ph : Int), .int .u16 (r.tm : Int), .int .u32 (r.us : Int), .int .u32 (r.rl : Int)]) (by simp [results, Try.results25, go_sem]) rfl ⟨rfl, tb_alloc_below _ _⟩
    · rw [if_neg (by omega)]
      generalize u.T.rts.length = m at *
      have t1 : decide (m ≤ n) = true := by simp; omega
      clear h0 h1
      go_enter Try.func25, Try.ntmps25
      go_wp2_with fail
      exact bodyPost_ret (v := .agg #[.int .u8 0, .int .u16 0, .int .u32 0, .int .u32 0]) (by simp [results, Try.results25, go_sem]) rfl ⟨rfl, B1.out⟩
theorem AutoAt.only {M : Nat → Prop} {w w' : World} {u : Au} {S : AS} (h : AutoAt w u S) (ho : Only M w w') (hM : ∀ b, M b → u.w0.heap.size ≤ b) (hg : ¬ M u.g) (hr : ¬ M u.rb) (hp : 0 < u.T.pts.length → ¬ M u.pb) : AutoAt w' u S := by
  obtain ⟨c, k1, k2, k3, k4⟩ := h.rs
  exact ⟨(ho.block _ (heap_lt h.obj) hg).trans h.obj, h.tp, h.tr, h.bel.trans (ho.below h.bel.size (fun i hi hm => by have := hM i hm; omega)), ⟨c, k1, k2, k3, k4.same (ho.block _ k4.lt hr)⟩, h.ps.same (fun hq => ho.block _ (h.ps.lt hq) (hp hq)), h.gB, h.rB, h.pB, h.gr, h.gp, h.rp, Nat.lt_of_lt_of_le h.pl ho.size⟩
theorem rcV_one (r : RS) (j : Nat) : (rcV r j).oneCell' = true := by unfold rcV; split <;> (try rfl) <;> split <;> (try rfl) <;> split <;> rfl
end Go.Proofs.Ytnjeiigdfdjccaa
