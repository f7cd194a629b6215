/- Read: what a log's data tell: the code's. -/
import Derived.Test.YtdlpgoackmgdkaaGreatDoorDiG
import Derived.Laws.BitsLemmas
namespace Go.Proofs.YtdlpgoackmgdkaaGreatDoor
open Go.RowKit Go.Shelf
set_option linter.unusedVariables false
set_option linter.unusedSimpArgs false
theorem or_joinL (x c k : Nat) (hx : x < 256 ^ k) (h : c * 256 ^ k + x < 4294967296) : bits .or .u32 (x : Int) ((c * 256 ^ k : Nat) : Int) = ((x + c * 256 ^ k : Nat) : Int) := by
  rw [u32_or_nat x (c * 256 ^ k) (by omega) (by omega), Nat.or_comm, show 256 ^ k = 2 ^ (8 * k) by rw [Nat.pow_mul], nat_join (8 * k) (c * 2 ^ (8 * k)) x (by simp) (by rw [Nat.pow_mul]; exact hx), Nat.add_comm]
theorem or4 {a b c d : Nat} (ha : a < 256) (hb : b < 256) (hc : c < 256) (hd : d < 256) : bits .or .u32 (bits .or .u32 (bits .or .u32 (a : Int) ((b : Int) * 256)) ((c : Int) * 65536)) ((d : Int) * 16777216) = ((a + b * 256 + c * 65536 + d * 16777216 : Nat) : Int) := by
  have e1 := or_joinL a b 1 (by omega) (by omega)
  have e2 := or_joinL (a + b * 256) c 2 (by omega) (by omega)
  have e3 := or_joinL (a + b * 256 + c * 65536) d 3 (by omega) (by omega)
  have c1 : (b : Int) * 256 = ((b * 256 ^ 1 : Nat) : Int) := by simp
  have c2 : (c : Int) * 65536 = ((c * 256 ^ 2 : Nat) : Int) := by simp
  have c3 : (d : Int) * 16777216 = ((d * 256 ^ 3 : Nat) : Int) := by simp
  rw [c1, e1, c2, show ((a + b * 256 ^ 1 : Nat) : Int) = ((a + b * 256 : Nat) : Int) from rfl, e2, c3, show ((a + b * 256 + c * 256 ^ 2 : Nat) : Int) = ((a + b * 256 + c * 65536 : Nat) : Int) from rfl, e3]
set_option maxRecDepth 100000 in
set_option maxHeartbeats 4000000 in
theorem rword_any (g : Nat) (da : Option Addr) (len dc j : Nat) (d : Nat → Nat) (w : World) (hg : w.cell? ⟨g, 0, none⟩ = some (.slice da len dc)) (h : DbAt w da len d) (hd : ∀ j, d j < 256) (hj : 4 * j + 4 ≤ len) (hl : len ≤ dc) (hdc : dc ≤ 9223372036854775807) (hj2 : j < 1073741824) :
    Calls Tryz.prog 55 #[.int .u32 (j : Int), .pointer (some ⟨g, 0, none⟩)] w fun e w' => e = .returned (.int .u32 (wordD d (4 * j) : Int)) ∧ ∃ q, w' = w.drewN q := by
  obtain ⟨b, off, rfl, hb, hc⟩ := h.cell (by omega)
  have k1 : (4 * (j : Int)) % 4294967296 = 4 * (j : Int) := by omega
  have i0 : (0 : Int) ≤ 4 * (j : Int) := by omega
  have i1 : 4 * (j : Int) ≤ (len : Int) := by omega
  have i2 : (len : Int) ≤ (dc : Int) := by omega
  have x0 : w.cell? ⟨b, off + 4 * j, none⟩ = some (.int .u8 (d (4 * j) : Int)) := hc (4 * j) (by omega)
  have x1 : w.cell? ⟨b, off + 4 * j + 1, none⟩ = some (.int .u8 (d (4 * j + 1) : Int)) := hc (4 * j + 1) (by omega)
  have x2 : w.cell? ⟨b, off + 4 * j + 2, none⟩ = some (.int .u8 (d (4 * j + 2) : Int)) := hc (4 * j + 2) (by omega)
  have x3 : w.cell? ⟨b, off + 4 * j + 3, none⟩ = some (.int .u8 (d (4 * j + 3) : Int)) := hc (4 * j + 3) (by omega)
  have h0 := hd (4 * j); have h1 := hd (4 * j + 1); have h2 := hd (4 * j + 2); have h3 := hd (4 * j + 3)
  have HR : Hid (wordD d (4 * j) = d (4 * j) + d (4 * j + 1) * 256 + d (4 * j + 2) * 65536 + d (4 * j + 3) * 16777216) := rfl
  obtain ⟨R, hR⟩ : ∃ R, R = wordD d (4 * j) := ⟨_, rfl⟩
  rw [← hR] at HR ⊢
  clear hR hc h
  generalize d (4 * j) = a0 at *
  generalize d (4 * j + 1) = a1 at *
  generalize d (4 * j + 2) = a2 at *
  generalize d (4 * j + 3) = a3 at *
  go_enter Tryz.func55, Tryz.ntmps55
  go_upto_region 2 with fail
  go_quiet (fail)
  have HO : Hid (bits .or .u32 (bits .or .u32 (bits .or .u32 (a0 : Int) ((a1 : Int) * 256)) ((a2 : Int) * 65536)) ((a3 : Int) * 16777216) = (R : Int)) := by
    show _ = _
    rw [or4 h0 h1 h2 h3, HR.out]
  rw [HO.out]
  go_wp2_with fail
  go_ret
  exact ⟨rfl, _, rfl⟩
end Go.Proofs.YtdlpgoackmgdkaaGreatDoor
