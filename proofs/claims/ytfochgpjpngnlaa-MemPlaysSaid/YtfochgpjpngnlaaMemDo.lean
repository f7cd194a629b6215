/- What can be read of a script; heavy. -/
import Derived.Test.YtfochgpjpngnlaaMemRead
import Derived.Test.YtfochgpjpngnlaaMemRef2
namespace Go.Proofs.Ytfochgpjpngnlaa
open Go.RowKit
set_option linter.unusedVariables false
structure DoR where
  kind : Int
  (at_ n x : Nat)
  la : Option Addr
  (ll lc : Nat)
  L : Nat → Nat
instance : Inhabited DoR := ⟨⟨0, 0, 0, 0, none, 0, 0, fun _ => 0⟩⟩
def doV (d : DoR) (j : Nat) : Value := if j = 0 then .int .i64 d.kind else if j = 1 then .int .u32 (d.at_ : Int) else if j = 2 then .int .u32 (d.n : Int) else if j = 3 then .int .u32 (d.x : Int) else .slice d.la d.ll d.lc
structure DoR.ok (w : World) (d : DoR) : Prop where
  at_ : d.at_ < 4294967296
  n : d.n < 4294967296
  x : d.x < 4294967296
  cap : d.ll ≤ d.lc
  max : d.lc ≤ maxLen
  L : SliceAt w d.la d.ll (bV d.L)
  lt : ∀ i, d.L i < 256
theorem DoR.ok.below {w w' : World} {d : DoR} (h : d.ok w) (hb : Below w.heap.size w w') : d.ok w' := ⟨h.at_, h.n, h.x, h.cap, h.max, h.L.below hb, h.lt⟩
def DosAt (w : World) (a : Option Addr) (len : Nat) (S : Nat → DoR) : Prop := SliceN w a len 5 (fun i j => doV (S i) j) ∧ ∀ i, (S i).ok w
theorem DosAt.below {w w' : World} {a : Option Addr} {len : Nat} {S : Nat → DoR} (h : DosAt w a len S) (hb : Below w.heap.size w w') : DosAt w' a len S := ⟨h.1.below hb, fun i => (h.2 i).below hb⟩
theorem intCells : Try.prog.cellsOf 3 = 1 := by kernel_rfl
theorem bytesCells : Try.prog.cellsOf 35 = 1 := by kernel_rfl
theorem doCells : Try.prog.cellsOf 37 = 5 := by kernel_rfl
theorem reads_i64 {w : World} {cs : List Value} {o : Nat} (h : ReadsC w 3 ((cs.drop o).take (Try.prog.cellsOf 3))) : ∃ n : Int, (-9223372036854775808 ≤ n ∧ n ≤ 9223372036854775807) ∧ cs.getD o undef = .int .i64 n := by
  rw [intCells] at h
  obtain ⟨n, hc, hw⟩ := reads_int1 Try.underlying3 h
  obtain ⟨h0, h1⟩ := bounds_i64 hw
  exact ⟨n, ⟨h0, h1⟩, one_take hc⟩
theorem slice_of {w : World} {x : Value} (h : ReadsC w 35 [x]) : ∃ a len cap, x = .slice a len cap := by
  obtain ⟨H, enc, m, y, hf⟩ := h
  rcases Go.Deep.open_slice Try.underlying35 hf with ⟨hcs, _⟩ | ⟨p, l, c, m', n, D, Pl, hcs, _⟩
  · simp at hcs; exact ⟨_, _, _, hcs⟩
  · simp at hcs; exact ⟨_, _, _, hcs⟩
theorem reads_do {w : World} {cs : List Value} (h : ReadsC w 37 cs) : ∃ d : DoR, d.ok w ∧ ∀ j, j < 5 → cs.getD j undef = doV d j := by
  obtain ⟨hl, hf⟩ := reads_struct Try.underlying37 h
  rw [doCells] at hl
  obtain ⟨k, h0, e0⟩ := reads_i64 (hf 0 _ rfl)
  obtain ⟨p, h1, e1⟩ := reads_u32 (hf 1 _ rfl)
  obtain ⟨n, h2, e2⟩ := reads_u32 (hf 2 _ rfl)
  obtain ⟨x, h3, e3⟩ := reads_u32 (hf 3 _ rfl)
  have h4 := hf 4 _ rfl
  match cs, hl with
  | [a0, a1, a2, a3, z], _ =>
    have h5 : ReadsC w 35 [z] := h4
    obtain ⟨a, len, cap, rfl⟩ := slice_of h5
    obtain ⟨k1, k2, X, hX, hXl⟩ := reads_bytes h5
    refine ⟨{ kind := k, at_ := p, n := n, x := x, la := a, ll := len, lc := cap, L := X }, ⟨h1, h2, h3, k1, k2, hX, hXl⟩, fun j hj => ?_⟩
    match j, hj with
    | 0, _ => exact e0
    | 1, _ => exact e1
    | 2, _ => exact e2
    | 3, _ => exact e3
    | 4, _ => rfl
theorem reads_dos {w : World} {a : Option Addr} {len cap : Nat} (h : ReadsC w 24 [.slice a len cap]) : len ≤ cap ∧ cap ≤ maxLen ∧ ∃ S, DosAt w a len S := by
  obtain ⟨hl, hm, C, hs, hr⟩ := reads_sliceN Try.underlying24 doCells (by omega) h
  obtain ⟨D, hD⟩ := choose_nat (α := DoR) (p := fun i d => d.ok w ∧ ∀ j, j < 5 → (C i).getD j undef = doV d j) (fun i hi => reads_do (hr i hi).2)
  refine ⟨hl, hm, fun i => if i < len then D i else default, hs.congr fun i hi j hj => ?_, fun i => ?_⟩
  · simp only [if_pos hi]; exact (hD i hi).2 j hj
  · by_cases hi : i < len
    · simp only [if_pos hi]; exact (hD i hi).1
    · simp only [if_neg hi]; exact ⟨by decide, by decide, by decide, by decide, by unfold maxLen; decide, .inl rfl, fun _ => (by show 0 < 256; omega)⟩
set_option maxHeartbeats 2000000 in
set_option maxRecDepth 100000 in
theorem heavy_any (a : Option Addr) (len cap : Nat) (S : Nat → DoR) (w : World) (hm : len ≤ 9223372036854775807) (hS : DosAt w a len S) :
    Calls Try.prog 7 #[.slice a len cap] w fun e w' => (∃ b, e = .returned (.bool b)) ∧ Below w.heap.size w w' := by
  have HS := Lib.hid hS
  clear hS
  go_enter Try.func7, Try.ntmps7
  go_wp2_with fail
  go_loopw [3, 8] (fun v i wr => ∃ k n : Nat, k ≤ len ∧ i = .int .i64 k ∧ v = .int .i64 n ∧ n ≤ 2000 ∧ Below w.heap.size w wr) (fun _ i _ => len - (intOf i).toNat)
  case atStart => exact ⟨0, 0, Nat.zero_le _, rfl, rfl, Nat.zero_le _, Below.refl _ _⟩
  case round =>
    obtain ⟨k, n, hk, rfl, rfl, hn, r1⟩ := hrel
    have B1 := Lib.hid r1
    clear r1
    by_cases hlt : k < len
    · obtain ⟨sb, soff, rfl, hsl, hcells⟩ := HS.out.1.at (by omega)
      have x0 : wr.cell? ⟨sb, soff + k * 5, none⟩ = some (.int .i64 (S k).kind) := by rw [B1.out.cell hsl]; exact hcells k hlt 0 (by omega)
      have x1 : wr.cell? ⟨sb, soff + k * 5 + 1, none⟩ = some (.int .u32 ((S k).at_ : Int)) := by rw [B1.out.cell hsl]; exact hcells k hlt 1 (by omega)
      have x2 : wr.cell? ⟨sb, soff + k * 5 + 2, none⟩ = some (.int .u32 ((S k).n : Int)) := by rw [B1.out.cell hsl]; exact hcells k hlt 2 (by omega)
      have x3 : wr.cell? ⟨sb, soff + k * 5 + 3, none⟩ = some (.int .u32 ((S k).x : Int)) := by rw [B1.out.cell hsl]; exact hcells k hlt 3 (by omega)
      have x4 : wr.cell? ⟨sb, soff + k * 5 + 4, none⟩ = some (.slice (S k).la (S k).ll (S k).lc) := by rw [B1.out.cell hsl]; exact hcells k hlt 4 (by omega)
      clear hcells
      obtain ⟨m, hif, hm1⟩ : ∃ m : Nat, (if (65536 : Int) < ((S k).ll : Int) then (65536 : Int) else ((S k).ll : Int)) = (m : Int) ∧ m ≤ 65536 := by
        by_cases h : (65536 : Int) < ((S k).ll : Int)
        · exact ⟨65536, by rw [if_pos h]; rfl, Nat.le_refl _⟩
        · exact ⟨(S k).ll, by rw [if_neg h], by omega⟩
      have hmin : ∀ ts t W, (Builtin.min_ ts t #[.int .i64 ((S k).ll : Int), .int .i64 65536]).run Try.prog W = .ok (.int .i64 (m : Int)) W := fun ts t W => by rw [run_min_int2, hif]
      clear hif
      generalize (S k).kind = kd at *
      generalize (S k).at_ = q at *
      generalize (S k).n = nn at *
      generalize (S k).x = xx at *
      generalize (S k).la = la at *
      generalize (S k).ll = ll at *
      generalize (S k).lc = lc at *
      have HBa : Hid (∀ o, Below w.heap.size w (wr.alloc o)) := fun o => B1.out.alloc B1.out.size o
      have hd0 : (0 : Int) ≤ (m : Int) / 64 := by omega
      have hd1 : (m : Int) / 64 ≤ 1024 := by omega
      cases t1 : decide ((2000 : Int) < (n : Int) + (1 + (m : Int) / 64))
      case true =>
        go_wp2_with fail
        go_ret
        exact ⟨⟨true, rfl⟩, HBa.out _⟩
      case false =>
        have hle : (n : Int) + (1 + (m : Int) / 64) ≤ 2000 := by simpa using t1
        go_wp2_with fail
        go_roundw
        case rel => exact ⟨k + 1, n + (1 + m / 64), by omega, by go_num, by go_num, by omega, HBa.out _⟩
        case measure => simp [intOf]; omega
    · obtain rfl : len = k := by omega
      go_wp2_with fail
      go_ret
      exact ⟨⟨_, rfl⟩, B1.out⟩
end Go.Proofs.Ytfochgpjpngnlaa
