/- What can be read of a script and of a field's definition; heavy. -/
import Derived.Test.YtdelcndaogjngaaFieKn
namespace Go.Proofs.Ytdelcndaogjngaa
open Go.RowKit
set_option linter.unusedVariables false
structure DoR where
  (kind part n : Int)
  x : Nat
  la : Option Addr
  (ll lc : Nat)
  L : Nat → Nat
instance : Inhabited DoR := ⟨⟨0, 0, 0, 0, none, 0, 0, fun _ => 0⟩⟩
def doV (d : DoR) (j : Nat) : Value := if j = 0 then .int .i64 d.kind else if j = 1 then .int .i64 d.part else if j = 2 then .int .i64 d.n else if j = 3 then .int .u32 (d.x : Int) else .slice d.la d.ll d.lc
def in64 (n : Int) : Prop := -9223372036854775808 ≤ n ∧ n ≤ 9223372036854775807
structure DoR.ok (w : World) (d : DoR) : Prop where
  kind : in64 d.kind
  part : in64 d.part
  n : in64 d.n
  x : d.x < 4294967296
  cap : d.ll ≤ d.lc
  max : d.lc ≤ maxLen
  L : SliceAt w d.la d.ll (uV d.L)
  lt : ∀ i, d.L i < 4294967296
theorem DoR.ok.below {w w' : World} {d : DoR} (h : d.ok w) (hb : Below w.heap.size w w') : d.ok w' := ⟨h.kind, h.part, h.n, h.x, h.cap, h.max, h.L.below hb, h.lt⟩
def DosAt (w : World) (a : Option Addr) (len : Nat) (S : Nat → DoR) : Prop := SliceN w a len 5 (fun i j => doV (S i) j) ∧ ∀ i, (S i).ok w
theorem DosAt.below {w w' : World} {a : Option Addr} {len : Nat} {S : Nat → DoR} (h : DosAt w a len S) (hb : Below w.heap.size w w') : DosAt w' a len S := ⟨h.1.below hb, fun i => (h.2 i).below hb⟩
theorem intCells : Try.prog.cellsOf 3 = 1 := by kernel_rfl
theorem u32Cells : Try.prog.cellsOf 23 = 1 := by kernel_rfl
theorem slcCells : Try.prog.cellsOf 22 = 1 := by kernel_rfl
theorem doCells : Try.prog.cellsOf 38 = 5 := by kernel_rfl
theorem defCells : Try.prog.cellsOf 25 = 4 := by kernel_rfl
theorem reads_u32 {w : World} {cs : List Value} {o : Nat} (h : ReadsC w 23 ((cs.drop o).take (Try.prog.cellsOf 23))) : ∃ n : Nat, n < 4294967296 ∧ cs.getD o undef = .int .u32 (n : Int) := by
  rw [u32Cells] at h
  obtain ⟨n, hc, hw⟩ := reads_int1 Try.underlying23 h
  obtain ⟨h0, h1⟩ := bounds_u32 hw
  obtain ⟨m, rfl⟩ := Int.eq_ofNat_of_zero_le h0
  exact ⟨m, by omega, one_take hc⟩
theorem reads_i64 {w : World} {cs : List Value} {o : Nat} (h : ReadsC w 3 ((cs.drop o).take (Try.prog.cellsOf 3))) : ∃ n : Int, in64 n ∧ cs.getD o undef = .int .i64 n := by
  rw [intCells] at h
  obtain ⟨n, hc, hw⟩ := reads_int1 Try.underlying3 h
  obtain ⟨h0, h1⟩ := bounds_i64 hw
  exact ⟨n, ⟨h0, h1⟩, one_take hc⟩
/-- A slice of words. -/
theorem reads_words {w : World} {a : Option Addr} {len cap : Nat} (h : ReadsC w 22 [.slice a len cap]) : len ≤ cap ∧ cap ≤ maxLen ∧ ∃ X : Nat → Nat, SliceAt w a len (uV X) ∧ ∀ i, X i < 4294967296 := by
  obtain ⟨l, hl, h1, h2, h3, h4⟩ := reads_ints Try.underlying22 Try.underlying23 u32Cells h
  refine ⟨h1, h2, fun i => if i < len then (l.getD i 0).toNat else 0, h3.congr fun i hi => ?_, fun i => ?_⟩
  · obtain ⟨k0, k1⟩ := bounds_u32 (h4 i hi)
    unfold intV uV
    simp only [if_pos hi]
    rw [Int.toNat_of_nonneg k0]
  · show (if i < len then (l.getD i 0).toNat else 0) < _
    by_cases hi : i < len
    · obtain ⟨k0, k1⟩ := bounds_u32 (h4 i hi)
      rw [if_pos hi]; omega
    · rw [if_neg hi]; omega
theorem slice_of {w : World} {x : Value} (h : ReadsC w 22 [x]) : ∃ a len cap, x = .slice a len cap := by
  obtain ⟨H, enc, m, y, hf⟩ := h
  rcases Go.Deep.open_slice Try.underlying22 hf with ⟨hcs, _⟩ | ⟨p, l, c, m', n, D, Pl, hcs, _⟩
  · simp at hcs; exact ⟨_, _, _, hcs⟩
  · simp at hcs; exact ⟨_, _, _, hcs⟩
theorem reads_do {w : World} {cs : List Value} (h : ReadsC w 38 cs) : ∃ d : DoR, d.ok w ∧ ∀ j, j < 5 → cs.getD j undef = doV d j := by
  obtain ⟨hl, hf⟩ := reads_struct Try.underlying38 h
  rw [doCells] at hl
  obtain ⟨k, h0, e0⟩ := reads_i64 (hf 0 _ rfl)
  obtain ⟨p, h1, e1⟩ := reads_i64 (hf 1 _ rfl)
  obtain ⟨n, h2, e2⟩ := reads_i64 (hf 2 _ rfl)
  obtain ⟨x, h3, e3⟩ := reads_u32 (hf 3 _ rfl)
  have h4 := hf 4 _ rfl
  match cs, hl with
  | [a0, a1, a2, a3, z], _ =>
    have h5 : ReadsC w 22 [z] := h4
    obtain ⟨a, len, cap, rfl⟩ := slice_of h5
    obtain ⟨k1, k2, X, hX, hXl⟩ := reads_words h5
    refine ⟨{ kind := k, part := p, n := n, x := x, la := a, ll := len, lc := cap, L := X }, ⟨h0, h1, h2, h3, k1, k2, hX, hXl⟩, fun j hj => ?_⟩
    match j, hj with
    | 0, _ => exact e0
    | 1, _ => exact e1
    | 2, _ => exact e2
    | 3, _ => exact e3
    | 4, _ => rfl
theorem reads_dos {w : World} {a : Option Addr} {len cap : Nat} (h : ReadsC w 26 [.slice a len cap]) : len ≤ cap ∧ cap ≤ maxLen ∧ ∃ S, DosAt w a len S := by
  obtain ⟨hl, hm, C, hs, hr⟩ := reads_sliceN Try.underlying26 doCells (by omega) h
  obtain ⟨D, hD⟩ := choose_nat (α := DoR) (p := fun i d => d.ok w ∧ ∀ j, j < 5 → (C i).getD j undef = doV d j) (fun i hi => reads_do (hr i hi).2)
  refine ⟨hl, hm, fun i => if i < len then D i else default, hs.congr fun i hi j hj => ?_, fun i => ?_⟩
  · simp only [if_pos hi]; exact (hD i hi).2 j hj
  · by_cases hi : i < len
    · simp only [if_pos hi]; exact (hD i hi).1
    · simp only [if_neg hi]; exact ⟨by constructor <;> decide, by constructor <;> decide, by constructor <;> decide, by decide, by decide, by unfold maxLen; decide, .inl rfl, fun _ => (by show 0 < 4294967296; omega)⟩
theorem reads_field {w : World} {cs : List Value} (h : ReadsC w 25 cs) :
    ∃ (nI : Int) (a : Option Addr) (len cap rd : Nat) (wr : Int) (S : Nat → Nat), cs = [.int .i64 nI, .slice a len cap, .int .u32 (rd : Int), .int .i64 wr] ∧ in64 nI ∧ rd < 4294967296 ∧ in64 wr ∧ len ≤ cap ∧ cap ≤ maxLen ∧ SliceAt w a len (uV S) ∧ ∀ i, S i < 4294967296 := by
  obtain ⟨hl, hf⟩ := reads_struct Try.underlying25 h
  rw [defCells] at hl
  obtain ⟨nI, h0, e0⟩ := reads_i64 (hf 0 _ rfl)
  have h1 := hf 1 _ rfl
  obtain ⟨rd, h2, e2⟩ := reads_u32 (hf 2 _ rfl)
  obtain ⟨wr, h3, e3⟩ := reads_i64 (hf 3 _ rfl)
  match cs, hl with
  | [a0, z, a2, a3], _ =>
    have h5 : ReadsC w 22 [z] := h1
    obtain ⟨a, len, cap, rfl⟩ := slice_of h5
    obtain ⟨k1, k2, X, hX, hXl⟩ := reads_words h5
    have e0' : a0 = .int .i64 nI := e0
    have e2' : a2 = .int .u32 (rd : Int) := e2
    have e3' : a3 = .int .i64 wr := e3
    subst e0' e2' e3'
    exact ⟨nI, a, len, cap, rd, wr, X, rfl, h0, h2, h3, k1, k2, hX, hXl⟩
/-- A Do as it lies in a box. -/
def doRow (d : DoR) : Array Value := #[.int .i64 d.kind, .int .i64 d.part, .int .i64 d.n, .int .u32 (d.x : Int), .slice d.la d.ll d.lc]
def lightV (S : Nat → DoR) (len : Nat) : Prop := len ≤ 500 ∧ ∀ i, i < len → (S i).ll ≤ 1000
set_option maxHeartbeats 2000000 in
theorem heavy_any (a : Option Addr) (len cap : Nat) (S : Nat → DoR) (w : World) (hm : len ≤ 9223372036854775807) (hS : DosAt w a len S) :
    Calls Try.prog 6 #[.slice a len cap] w fun e w' => (∃ b, e = .returned (.bool b) ∧ (b = false → lightV S len)) ∧ Below w.heap.size w w' := by
  have HS := Lib.hid hS
  clear hS
  go_enter Try.func6, Try.ntmps6
  go_wp2_with fail
  go_loopw [7] (fun i wr => ∃ k : Nat, k ≤ len ∧ i = .int .i64 k ∧ (∀ j, j < k → (S j).ll ≤ 1000) ∧ Below w.heap.size w wr) (fun i _ => len - (intOf i).toNat)
  case atStart => exact ⟨0, Nat.zero_le _, rfl, fun _ h => absurd h (Nat.not_lt_zero _), Below.refl _ _⟩
  case round =>
    obtain ⟨k, hk, rfl, hj, r1⟩ := hrel
    have B1 := Lib.hid r1
    have HJ := Lib.hid hj
    clear r1 hj
    by_cases hlt : k < len
    · obtain ⟨sb, soff, rfl, hsl, hcells⟩ := HS.out.1.at (by omega)
      have x0 : wr.cell? ⟨sb, soff + k * 5, none⟩ = some (.int .i64 (S k).kind) := by rw [B1.out.cell hsl]; exact hcells k hlt 0 (by omega)
      have x1 : wr.cell? ⟨sb, soff + k * 5 + 1, none⟩ = some (.int .i64 (S k).part) := by rw [B1.out.cell hsl]; exact hcells k hlt 1 (by omega)
      have x2 : wr.cell? ⟨sb, soff + k * 5 + 2, none⟩ = some (.int .i64 (S k).n) := by rw [B1.out.cell hsl]; exact hcells k hlt 2 (by omega)
      have x3 : wr.cell? ⟨sb, soff + k * 5 + 3, none⟩ = some (.int .u32 ((S k).x : Int)) := by rw [B1.out.cell hsl]; exact hcells k hlt 3 (by omega)
      have x4 : wr.cell? ⟨sb, soff + k * 5 + 4, none⟩ = some (.slice (S k).la (S k).ll (S k).lc) := by rw [B1.out.cell hsl]; exact hcells k hlt 4 (by omega)
      clear hcells
      have HLL : Hid ((S k).ll ≤ 1000 → ∀ j, j < k + 1 → (S j).ll ≤ 1000) := fun h j hj => by
        rcases Nat.lt_or_ge j k with h1 | h1
        · exact HJ.out j h1
        · obtain rfl : j = k := by omega
          exact h
      have hml : (S k).ll ≤ 9223372036854775807 := by have h1 := (HS.out.2 k).cap; have h2 := (HS.out.2 k).max; unfold maxLen at h2; omega
      generalize (S k).kind = kd at *
      generalize (S k).part = q at *
      generalize (S k).n = nn at *
      generalize (S k).x = xx at *
      generalize (S k).la = la at *
      generalize (S k).ll = ll at *
      generalize (S k).lc = lc at *
      have HBa : Hid (∀ o, Below w.heap.size w (wr.alloc o)) := fun o => B1.out.alloc B1.out.size o
      by_cases hb : 1000 < ll
      · have t1 : decide (1000 < (ll : Int)) = true := by simp; omega
        go_wp2_with fail
        go_ret
        exact ⟨⟨true, rfl, fun h => by cases h⟩, HBa.out _⟩
      · have t1 : decide (1000 < (ll : Int)) = false := by simp; omega
        go_wp2_with fail
        go_roundw
        case rel => exact ⟨k + 1, by omega, by go_num, HLL.out (by omega), HBa.out _⟩
        case measure => simp [intOf]; omega
    · obtain rfl : len = k := by omega
      cases tb : decide (500 < (len : Int))
      all_goals
        go_wp2_with fail
        go_ret
        refine ⟨⟨_, rfl, fun h => ?_⟩, B1.out⟩
        first
        | (cases h; done)
        | exact ⟨by simp at tb; omega, HJ.out⟩
end Go.Proofs.Ytdelcndaogjngaa
