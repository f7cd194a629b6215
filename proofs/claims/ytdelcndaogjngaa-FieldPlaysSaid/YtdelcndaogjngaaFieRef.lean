/- The document's field: May, Bit. -/
import Derived.Test.YtdelcndaogjngaaFieRead
namespace Go.Proofs.Ytdelcndaogjngaa
open Go.RowKit
set_option linter.unusedVariables false
theorem may_ok (ins : Int) (a : Option Addr) (len cap rd : Nat) (wt : Int) (w : World) (h : mayD ins len rd wt) :
    Calls Try.prog 8 #[.agg #[.int .i64 ins, .slice a len cap, .int .u32 (rd : Int), .int .i64 wt]] w fun e w' => e = .returned (.bool true) ∧ Below w.heap.size w w' := by
  obtain ⟨h1, h2, h3, h4, h5, h6⟩ := h
  have t1 : decide (0 ≤ ins) = true := by simpa using h1
  have t2 : decide (ins ≤ 16) = true := by simpa using h2
  have t3 : decide ((len : Int) ≤ 16) = true := by simp; omega
  have t4 : decide ((rd : Int) ≤ 255) = true := by simp; omega
  have t5 : decide (0 ≤ wt) = true := by simpa using h5
  have t6 : decide (wt ≤ 7) = true := by simp; omega
  clear h1 h2 h3 h4 h5 h6
  go_enter Try.func8, Try.ntmps8
  go_wp2_with fail
  go_ret
  exact ⟨rfl, (Below.refl _ w).alloc (Nat.le_refl _) _⟩
theorem may_bad (ins : Int) (a : Option Addr) (len cap rd : Nat) (wt : Int) (w : World) (h : ¬ mayD ins len rd wt) :
    Calls Try.prog 8 #[.agg #[.int .i64 ins, .slice a len cap, .int .u32 (rd : Int), .int .i64 wt]] w fun e w' => e = .returned (.bool false) ∧ Below w.heap.size w w' := by
  have HH := Lib.hid h
  clear h
  cases t1 : decide (0 ≤ ins)
  case false =>
    go_enter Try.func8, Try.ntmps8
    go_wp2_with fail
    go_ret
    exact ⟨rfl, (Below.refl _ w).alloc (Nat.le_refl _) _⟩
  cases t2 : decide (ins ≤ 16)
  case false =>
    go_enter Try.func8, Try.ntmps8
    go_wp2_with fail
    go_ret
    exact ⟨rfl, (Below.refl _ w).alloc (Nat.le_refl _) _⟩
  cases t3 : decide ((len : Int) ≤ 16)
  case false =>
    go_enter Try.func8, Try.ntmps8
    go_wp2_with fail
    go_ret
    exact ⟨rfl, (Below.refl _ w).alloc (Nat.le_refl _) _⟩
  cases t4 : decide ((rd : Int) ≤ 255)
  case false =>
    go_enter Try.func8, Try.ntmps8
    go_wp2_with fail
    go_ret
    exact ⟨rfl, (Below.refl _ w).alloc (Nat.le_refl _) _⟩
  cases t5 : decide (0 ≤ wt)
  case false =>
    go_enter Try.func8, Try.ntmps8
    go_wp2_with fail
    go_ret
    exact ⟨rfl, (Below.refl _ w).alloc (Nat.le_refl _) _⟩
  cases t6 : decide (wt ≤ 7)
  case false =>
    go_enter Try.func8, Try.ntmps8
    go_wp2_with fail
    go_ret
    exact ⟨rfl, (Below.refl _ w).alloc (Nat.le_refl _) _⟩
  exfalso
  refine HH.out ?_
  have h3 := of_decide_eq_true t3
  have h4 := of_decide_eq_true t4
  simp at t1 t2 t5 t6
  exact ⟨t1, t2, by omega, by omega, t5, by omega⟩
theorem half (l k : Nat) : l / 2 ^ k / 2 = l / 2 ^ (k + 1) := by rw [Nat.div_div_eq_div_mul, Nat.pow_succ]
set_option maxHeartbeats 2000000 in
theorem bit_any (l p : Nat) (hl : l < 4294967296) (hp : p < 8) (w : World) :
    Calls Try.prog 25 #[.int .u32 (l : Int), .int .i64 (p : Int)] w fun e w' => e = .returned (.bool (decide (bitN l p = 1))) ∧ w = w' := by
  go_enter Try.func25, Try.ntmps25
  go_wp2_with fail
  go_loop [0, 5] (fun v i => ∃ k : Nat, k ≤ p ∧ i = .int .i64 k ∧ v = .int .u32 ((l / 2 ^ k : Nat) : Int)) (fun _ i => p - (intOf i).toNat)
  case atStart => exact ⟨0, Nat.zero_le _, rfl, by simp⟩
  case round =>
    obtain ⟨k, hk, rfl, rfl⟩ := hrel
    by_cases hlt : k < p
    · have h2 := half l k
      have h3 : l / 2 ^ k < 4294967296 := Nat.lt_of_le_of_lt (Nat.div_le_self _ _) hl
      obtain ⟨x, hx⟩ : ∃ x, x = l / 2 ^ k := ⟨_, rfl⟩
      rw [← hx] at h2 h3 ⊢
      have HX := Lib.hid h2
      clear hx h2
      go_wp2_with fail
      go_round
      case rel => exact ⟨k + 1, by omega, by go_num, by rw [← HX.out]; go_num⟩
      case measure => simp [intOf]; omega
    · obtain rfl : p = k := by omega
      have h3 : l / 2 ^ p < 4294967296 := Nat.lt_of_le_of_lt (Nat.div_le_self _ _) hl
      have HB : Hid (∀ y, y = l / 2 ^ p → decide (bitN l p = 1) = decide (y % 2 = 1)) := fun y h => by rw [h]; rfl
      obtain ⟨x, hx⟩ : ∃ x, x = l / 2 ^ p := ⟨_, rfl⟩
      have HB2 := Lib.hid (HB.out x hx)
      rw [← hx] at h3 ⊢
      clear hx HB
      go_wp2_with fail
      go_ret
      refine ⟨?_, rfl⟩
      rw [HB2.out]
      have hE : (((x : Int) % 2) == 1) = decide (x % 2 = 1) := by rw [Bool.eq_iff_iff]; simp; omega
      exact congrArg (fun b => Ending.returned (.bool b)) hE
theorem SliceAt.only0 {M : Nat → Prop} {w w' : World} {a : Option Addr} {n : Nat} {V : Nat → Value} (h : SliceAt w a n V) (ho : Only M w w') (hb : 0 < n → ∀ b off, a = some ⟨b, off, none⟩ → b < w.heap.size → ¬ M b) : SliceAt w' a n V := by
  by_cases hn : 0 < n
  · exact h.only ho (hb hn)
  · exact .inl (by omega)
/-- The document's field, as it lies: r its block, the words' rows' blocks. -/
structure RS where
  (lo r bi bo bp nI nS cap rd : Nat)
  wt : Int
  sa : Option Addr
  (vi vo vp : Value)
  (safe ins outs : Nat → Nat)
  puts : List (Nat × Nat)
def RS.row (R : RS) : Array Value := #[.int .i64 (R.nI : Int), .slice R.sa R.nS R.cap, .int .u32 (R.rd : Int), .int .i64 R.wt, R.vi, R.vo, R.vp]
def putVs (l : List (Nat × Nat)) : List Value := l.flatMap fun p => [.int .i64 (p.1 : Int), .int .u32 (p.2 : Int)]
/-- What a call on it may turn. -/
def RS.M (R : RS) (b : Nat) : Prop := b = R.r ∨ (0 < R.nS ∧ b = R.bo) ∨ (R.puts ≠ [] ∧ b = R.bp)
structure RefAt (w : World) (R : RS) : Prop where
  obj : w.heap[R.r]? = some (.cells R.row 49 (0, 0))
  nI : R.nI ≤ 16
  nS : R.nS ≤ 16
  rd : R.rd < 256
  wt : 0 ≤ R.wt ∧ R.wt < 8
  len : R.puts.length ≤ 500
  lt : ∀ p, p ∈ R.puts → p.1 < R.nS ∧ p.2 < 4294967296
  safe : SliceAt w R.sa R.nS (uV R.safe)
  ins : SlAt w R.vi R.bi 23 R.nI (uV R.ins)
  outs : SlAt w R.vo R.bo 23 R.nS (uV R.outs)
  puts : w.ownsRow 0 59 2 R.vp R.puts.length (putVs R.puts)
  bp : ∀ k, R.vp.ownBlock = some k → k = R.bp ∧ R.puts ≠ []
  lo : R.lo ≤ R.r ∧ R.lo ≤ R.bi ∧ R.lo ≤ R.bo
  hi : R.r < w.heap.size ∧ R.bi < w.heap.size ∧ R.bo < w.heap.size
  ne : R.r ≠ R.bi ∧ R.r ≠ R.bo ∧ R.bi ≠ R.bo
  np : R.puts ≠ [] → R.lo ≤ R.bp ∧ R.bp < w.heap.size ∧ R.r ≠ R.bp ∧ R.bi ≠ R.bp ∧ R.bo ≠ R.bp
  sab : 0 < R.nS → ∀ b off, R.sa = some ⟨b, off, none⟩ → b < R.lo
theorem RefAt.cell {w : World} {R : RS} (h : RefAt w R) (i : Nat) (v : Value) (hv : R.row[i]? = some v) : w.cell? ⟨R.r, i, none⟩ = some v := cell_row h.obj hv
end Go.Proofs.Ytdelcndaogjngaa
