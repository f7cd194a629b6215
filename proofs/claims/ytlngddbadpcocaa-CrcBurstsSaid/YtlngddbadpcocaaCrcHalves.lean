/- What crc.halves returns: the table of half bytes. -/
import Derived.Test.YtlngddbadpcocaaRows
import Derived.Test.YtlngddbadpcocaaCrcPlain
import Derived.WalkKit
import Derived.ProofKit
import Derived.Below
import Derived.Laws.Rows
import Derived.Lib.Hide
namespace Go.Proofs.Ytlngddbadpcocaa
open Go.RowKit
set_option linter.unusedVariables false

/-- The table when k of its 16 cells are filled. -/
def tabRow (k : Nat) : Array Value := ((List.range 16).map fun j => Value.int .u32 (if j < k then (Pl.tab j : Int) else 0)).toArray
theorem tabRow_size (k : Nat) : (tabRow k).size = 16 := by simp [tabRow]
theorem tabRow_get (k j : Nat) (h : j < 16) : (tabRow k)[j]? = some (Value.int .u32 (if j < k then (Pl.tab j : Int) else 0)) := by
  simp [tabRow, h]
theorem tabRow_set (k : Nat) (h : k < 16) : (tabRow k).setIfInBounds k (.int .u32 (Pl.tab k)) = tabRow (k + 1) := by
  apply Array.ext_getElem?
  intro i
  rw [Array.getElem?_setIfInBounds]
  by_cases hi : i < 16
  · rw [tabRow_get (k + 1) i hi]
    by_cases e : k = i
    · subst e; simp [tabRow_size, h]
    · rw [if_neg e, tabRow_get k i hi]
      have : i < k ↔ i < k + 1 := by omega
      simp [this]
  · have h1 : (tabRow k)[i]? = none := by simp [tabRow_size]; omega
    have h2 : (tabRow (k + 1))[i]? = none := by simp [tabRow_size]; omega
    rw [if_neg (by omega), h1, h2]
theorem tabRow_zero : tabRow 0 = #[.int .u32 0, .int .u32 0, .int .u32 0, .int .u32 0, .int .u32 0, .int .u32 0, .int .u32 0, .int .u32 0, .int .u32 0, .int .u32 0, .int .u32 0, .int .u32 0, .int .u32 0, .int .u32 0, .int .u32 0, .int .u32 0] := by
  simp [tabRow, List.range, List.range.loop]
theorem btN_succ (m r : Nat) : Pl.btN (m + 1) r = Pl.bt (Pl.btN m r) := Pl.btN_add m 1 r
theorem step_bt (q : Nat) (h : q < 4294967296) :
    bits .xor .u32 ((q : Int) / 2) (bits .and .u32 3988292384 (-bits .and .u32 (q : Int) 1 % 4294967296)) = ((Pl.bt q : Nat) : Int) := by
  have h1 : bits .and .u32 (q : Int) 1 = ((q % 2 : Nat) : Int) := by
    have := u32_and_nat q 1 h (by omega)
    rw [nat_mask1] at this; exact this
  rw [h1]
  rcases Nat.mod_two_eq_zero_or_one q with h2 | h2
  · rw [h2]
    have h3 : bits .and .u32 3988292384 (-((0 : Nat) : Int) % 4294967296) = ((0 : Nat) : Int) := u32_and_nat 3988292384 0 (by omega) (by omega)
    rw [h3]
    have h4 := u32_xor_nat (q / 2) 0 (by omega) (by omega)
    unfold Pl.bt
    rw [if_neg (by omega)]
    exact_mod_cast h4
  · rw [h2]
    have h3 : bits .and .u32 3988292384 (-((1 : Nat) : Int) % 4294967296) = ((3988292384 : Nat) : Int) := u32_and_nat 3988292384 4294967295 (by omega) (by omega)
    rw [h3]
    have h4 := u32_xor_nat (q / 2) 3988292384 (by omega) (by omega)
    unfold Pl.bt
    rw [if_pos h2]
    exact_mod_cast h4

theorem cell_row {w : World} {g j : Nat} {cs : Array Value} {t : TypeId} {fr : Nat × Nat} {v : Value} (hg : w.heap[g]? = some (.cells cs t fr)) (hv : cs[j]? = some v) : w.cell? ⟨g, j, none⟩ = some v := by
  rw [cell_of_row w g j cs t fr hg, hv]

theorem infoTab (k : Nat) : (Try.prog.info? 32).map (·.size) = some (tabRow k).size := by rw [tabRow_size]; kernel_rfl
theorem tabSizes (j k : Nat) : (tabRow j).size = (tabRow k).size := by rw [tabRow_size, tabRow_size]
theorem tabOnes (k : Nat) : (tabRow k).all (·.oneCell') = true := by simp [tabRow, List.range, List.range.loop, Value.oneCell']
theorem below_setRow {B : Nat} {a w : World} (h : Below B a w) {g : Nat} (hg : B ≤ g) (cs : Array Value) : Below B a (w.setRow g cs) :=
  h.trans ⟨rfl, rfl, rfl, by simp, fun k hk => setRow_other w g k cs (by omega)⟩
set_option maxHeartbeats 1000000 in
theorem halves_any (w : World) : Calls Try.prog 14 #[] w fun e w' => e = .returned (.agg (tabRow 16)) ∧ Below w.heap.size w w' := by
  go_enter Try.func14, Try.ntmps14
  go_wp2
  go_loopw [4, 2, 3] (fun i _ _ wr => ∃ k : Nat, k ≤ 16 ∧ i = .int .i64 k ∧ wr.heap.size = w.heap.size + 2 ∧ Below w.heap.size w wr ∧ wr.heap[w.heap.size]? = some (.cells (tabRow 0) 32 (0, 0)) ∧ wr.heap[w.heap.size + 1]? = some (.cells (tabRow k) 32 (0, 0))) (fun i _ _ _ => 16 - (intOf i).toNat)
  case atStart => exact ⟨0, by omega, rfl, by simp, ((Below.refl _ _).alloc (Nat.le_refl _) _).alloc (by simp) _, by rw [tabRow_zero]; exact heap_alloc2_old _ _ _, by rw [tabRow_zero]; exact heap_alloc2_new _ _ _⟩
  case round =>
    obtain ⟨k, hk, rfl, hsz, hbel, hb0, hb1⟩ := hrel
    have HS := Lib.hid hsz; have HB := Lib.hid hbel; have H0 := Lib.hid hb0; have H1 := Lib.hid hb1
    clear hsz hbel hb0 hb1
    by_cases hlt : k < 16
    · have hcell : wr.cell? ⟨w.heap.size + 1, k, none⟩ = some (.int .u32 (if k < k then (Pl.tab k : Int) else 0)) := cell_row H1.out (tabRow_get k k hlt)
      have hfz : wr.frozen? ⟨w.heap.size + 1, k, none⟩ = false := frozen_of_row _ _ _ _ _ H1.out
      go_wp2
      go_loop [9, 3] (fun j r => ∃ m : Nat, m ≤ 4 ∧ j = .int .i64 m ∧ r = .int .u32 (Pl.btN m k : Nat)) (fun j _ => 4 - (intOf j).toNat)
      case atStart => exact ⟨0, by omega, rfl, rfl⟩
      case round =>
        obtain ⟨m, hm, rfl, rfl⟩ := hrel
        have hq := Pl.btN_lt m k (by omega)
        have hs := btN_succ m k
        have H := Lib.hid hs; clear hs
        have hst := step_bt (Pl.btN m k) hq
        go_wp2
        · go_round
          case rel => exact ⟨m + 1, by omega, by go_num, by rw [H.out]⟩
          case measure => simp [intOf]; omega
        · obtain rfl : m = 4 := by omega
          go_wp2
          go_roundw
          case rel =>
            refine ⟨k + 1, by omega, by go_num, ?_, ?_, ?_, ?_⟩
            · simp [World.setCell, HS.out]
            · exact HB.out.setCell (by simp) _
            · rw [heap_setCell_other _ _ _ _ (by simp)]; exact H0.out
            · rw [← tabRow_set k hlt]; exact heap_setCell_same _ _ _ _ _ _ H1.out
          case measure => simp [intOf]; omega
    · obtain rfl : k = 16 := by omega
      have hb0 := H0.out
      have hb1 := H1.out
      clear H0 H1
      go_wp2_with (first
        | (refine wpList_load_row rfl 32 _ rfl (w.heap.size + 1) rfl 32 _ (0, 0) _ hb1 Try.underlying32 rfl (infoTab 16) ?_)
        | (refine wpList_store_row rfl 32 _ _ rfl w.heap.size (tabRow 16) rfl rfl 32 (tabRow 0) hb0 (infoTab 16) (tabSizes 0 16) (tabOnes 16) ?_))
      exact bodyPost_ret (v := .agg (tabRow 16)) (results_cell_row (g := w.heap.size) (t := 32) (fr := (0, 0)) rfl _ _ _ _ rfl (setRow_heap wr w.heap.size (tabRow 0) (tabRow 16) 32 (0, 0) hb0) Try.underlying32 rfl (infoTab 16)) rfl ⟨rfl, below_setRow HB.out (Nat.le_refl _) _⟩
end Go.Proofs.Ytlngddbadpcocaa
