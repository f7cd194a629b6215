/- The writer, as far as what it has put is told: where a number may not be, its text is anything. -/
import Derived.Test.YtpodedhnlicckaaGreatDoorTbNx
import Derived.Test.YtpodedhnlicckaaGreatDoorTbPq
import Derived.Lib.ItoaLen
namespace Go.Proofs.YtpodedhnlicckaaGreatDoor
open Go.Shelf Go.RowKit
set_option linter.unusedVariables false
set_option linter.unusedSimpArgs false
def WrR (B b : Nat) (bad : Bool) (F : List UInt8) (N : Nat) (w : World) : Prop := ∃ l, WrAt B b l bad w ∧ l.length ≤ N ∧ (bad = false → l = F)
theorem WrR.kept {B b N : Nat} {bad : Bool} {F : List UInt8} {w w' : World} (h : WrR B b bad F N w) (hb : Below w.heap.size w w') : WrR B b bad F N w' := by
  obtain ⟨l, h1, h2, h3⟩ := h
  exact ⟨l, h1.kept hb, h2, h3⟩
theorem WrR.lt {B b N : Nat} {bad : Bool} {F : List UInt8} {w : World} (h : WrR B b bad F N w) : b < w.heap.size := by
  obtain ⟨l, h1, _, _⟩ := h
  obtain ⟨_, p, v, _, h, _⟩ := h1
  exact heap_lt h
theorem putL_len (m : Nat) (ws : List ByteArray) (l : List UInt8) (h : ∀ s ∈ ws, s.size ≤ m) : (putL l ws).length ≤ l.length + ws.length * (m + 1) := by
  rw [putL_eq]
  have := putW_len m (ws.map fun s => s.data.toList) l (fun q hq => by
    obtain ⟨s, hs, rfl⟩ := List.mem_map.1 hq
    have := h s hs
    simpa using this)
  rw [List.length_map] at this
  exact this
theorem putL_take_len (m N : Nat) (ws : List ByteArray) (l : List UInt8) (h : ∀ s ∈ ws, s.size ≤ m) (hN : l.length + ws.length * (m + 1) ≤ N) (k : Nat) : (putL l (ws.take k)).length ≤ N := by
  have h1 := putL_len m (ws.take k) l (fun s hs => h s (List.mem_of_mem_take hs))
  have h2 : (ws.take k).length * (m + 1) ≤ ws.length * (m + 1) := Nat.mul_le_mul_right _ (List.length_take_le' k ws)
  omega
theorem itoaB_size (n : Int) (h0 : -9223372036854775808 ≤ n) (h1 : n ≤ 9223372036854775807) : (itoaB n).size ≤ 21 := by
  have := Lib.itoa_length_le n h0 h1
  show (Lib.itoa n).toArray.size ≤ 21
  simpa using this
theorem numR_any (B b N : Nat) (bad : Bool) (F : List UInt8) (word : ByteArray) (n : Int) (w : World) (h : WrR B b bad F N w) (hN : N ≤ 10000000) (hw : word.size ≤ 20) (h0 : -9223372036854775808 ≤ n) (h1 : n ≤ 9223372036854775807) (hT : TabW w) (hG : GlobLow B) (hBw : B ≤ w.heap.size) :
    Calls Tryz.prog 43 #[.pointer (some ⟨b, 0, none⟩), .string word, .int .i64 n] w fun e w' => e = .returned (.tuple #[]) ∧ WrR B b (bad || offR n) (putW F [word.data.toList, Lib.itoa n]) (N + 50) w' ∧ Below B w w' ∧ Lib.OthersKept 5 (some b) w w' := by
  obtain ⟨l, hl, hn, hf⟩ := h
  have hsz : ∀ s ∈ [word, itoaB n], s.size ≤ 21 := by
    intro s hs
    simp only [List.mem_cons, List.not_mem_nil, or_false] at hs
    rcases hs with rfl | rfl
    · omega
    · exact itoaB_size n h0 h1
  refine (wnum_any B b l bad word n w hl h0 h1 hT hG hBw (putL_take_len 21 _ _ l hsz (by show l.length + 2 * (21 + 1) ≤ _; omega)) (fun s hs => by have := hsz s hs; omega)).mono ?_
  rintro e w' ⟨rfl, k1, k2, k3⟩
  refine ⟨rfl, ⟨_, k1, ?_, ?_⟩, k2, k3⟩
  · have := putL_len 21 _ l hsz
    have e : l.length + [word, itoaB n].length * (21 + 1) ≤ N + 50 := by show l.length + 2 * (21 + 1) ≤ _; omega
    omega
  · intro hb
    rw [hf (by revert hb; cases bad <;> simp), putL_eq]; rfl
theorem endR_any (B b N : Nat) (bad : Bool) (F : List UInt8) (w : World) (h : WrR B b bad F N w) (hN : N ≤ 10000000) (hBw : B ≤ w.heap.size) :
    Calls Tryz.prog 44 #[.pointer (some ⟨b, 0, none⟩)] w fun e w' => e = .returned (.tuple #[]) ∧ WrR B b bad (F ++ [10]) (N + 1) w' ∧ Below B w w' ∧ Lib.OthersKept 5 (some b) w w' := by
  obtain ⟨l, hl, hn, hf⟩ := h
  refine (wend_any B b l bad w hl (by omega) hBw).mono ?_
  rintro e w' ⟨rfl, k1, k2, k3⟩
  refine ⟨rfl, ⟨_, k1, by simp; omega, fun hb => by rw [hf hb]⟩, k2, k3⟩
theorem putR_any (B b N gs : Nat) (bad : Bool) (F : List UInt8) (ws : List ByteArray) (c : Nat) (w : World) (h : WrR B b bad F N w) (hN : N ≤ 10000000) (hg : w.heap[gs]? = some (.cells (ws.map Value.string).toArray 9 (0, 0))) (hgb : gs ≠ b) (hn : ws.length ≤ 2) (hs : ∀ s ∈ ws, s.size ≤ 22) (hBw : B ≤ w.heap.size) :
    Calls Tryz.prog 83 #[.pointer (some ⟨b, 0, none⟩), .slice (some ⟨gs, 0, none⟩) ws.length c] w fun e w' => e = .returned (.tuple #[]) ∧ WrR B b bad (putW F (ws.map fun s => s.data.toList)) (N + 50) w' ∧ Below B w w' ∧ Lib.OthersKept 5 (some b) w w' := by
  obtain ⟨l, hl, hnl, hf⟩ := h
  have hm : ws.length * (22 + 1) ≤ 2 * (22 + 1) := Nat.mul_le_mul_right _ hn
  refine (put_any B b gs l bad ws c w hl hg hgb (by omega) (putL_take_len 22 _ _ l hs (by omega)) (fun s h => by have := hs s h; omega) hBw).mono ?_
  rintro e w' ⟨rfl, k1, k2, k3⟩
  refine ⟨rfl, ⟨_, k1, ?_, fun hb => by rw [hf hb, putL_eq]⟩, k2, k3⟩
  have := putL_len 22 _ l hs
  omega
end Go.Proofs.YtpodedhnlicckaaGreatDoor
