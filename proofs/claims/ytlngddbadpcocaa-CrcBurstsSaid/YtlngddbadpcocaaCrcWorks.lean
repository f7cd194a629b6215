/- What the statements' own small check returns: true. -/
import Derived.Test.YtlngddbadpcocaaCrcMore
import Derived.Lib.SlBytesConst
namespace Go.Proofs.Ytlngddbadpcocaa
open Go.RowKit
set_option linter.unusedVariables false
theorem bytesAt_new (w : World) (l : List Nat) (cs : Array Value) (t : TypeId) (fr : Nat × Nat) (b : Nat) (h : ∀ c ∈ l, c < 256) (hb : w.heap[b]? = some (.cells cs t fr)) (hc : ∀ i, i < l.length → cs[i]? = some (.int .u8 (l.getD i 0 : Nat))) : BytesAt w (some ⟨b, 0, none⟩) l := by
  refine ⟨h, .inr ⟨b, 0, rfl, ?_, fun i hi => ?_⟩⟩
  · by_cases hlt : b < w.heap.size
    · exact hlt
    · rw [Array.getElem?_eq_none (by omega)] at hb; cases hb
  · rw [Nat.zero_add]; exact cell_row hb (hc i hi)
theorem known9 : Pl.more 0 [49, 50, 51, 52, 53, 54, 55, 56, 57] = 3421780262 := by decide +kernel
theorem known4 : Pl.more 0 [49, 50, 51, 52] = 2615402659 := by decide +kernel
theorem known5 : Pl.more 2615402659 [53, 54, 55, 56, 57] = 3421780262 := by decide +kernel
theorem sum9 (w : World) (b : Nat) (t : TypeId) (fr : Nat × Nat) (hb : w.heap[b]? = some (.cells #[.int .u8 49, .int .u8 50, .int .u8 51, .int .u8 52, .int .u8 53, .int .u8 54, .int .u8 55, .int .u8 56, .int .u8 57] t fr)) :
    Calls Try.prog 10 #[.slice (some ⟨b, 0, none⟩) 9 9] w fun e w' => e = .returned (.int .u32 3421780262) ∧ Below w.heap.size w w' := by
  have h := sum_any (some ⟨b, 0, none⟩) 9 9 [49, 50, 51, 52, 53, 54, 55, 56, 57] w rfl (by omega) (bytesAt_new w _ _ t fr b (by decide) hb (by
    intro i hi; simp at hi
    match i, hi with
    | 0, _ => rfl | 1, _ => rfl | 2, _ => rfl | 3, _ => rfl | 4, _ => rfl | 5, _ => rfl | 6, _ => rfl | 7, _ => rfl | 8, _ => rfl))
  rw [known9] at h; exact h
theorem sum4 (w : World) (b : Nat) (t : TypeId) (fr : Nat × Nat) (hb : w.heap[b]? = some (.cells #[.int .u8 49, .int .u8 50, .int .u8 51, .int .u8 52] t fr)) :
    Calls Try.prog 10 #[.slice (some ⟨b, 0, none⟩) 4 4] w fun e w' => e = .returned (.int .u32 2615402659) ∧ Below w.heap.size w w' := by
  have h := sum_any (some ⟨b, 0, none⟩) 4 4 [49, 50, 51, 52] w rfl (by omega) (bytesAt_new w _ _ t fr b (by decide) hb (by
    intro i hi; simp at hi
    match i, hi with
    | 0, _ => rfl | 1, _ => rfl | 2, _ => rfl | 3, _ => rfl))
  rw [known4] at h; exact h
theorem more5 (w : World) (b : Nat) (t : TypeId) (fr : Nat × Nat) (hb : w.heap[b]? = some (.cells #[.int .u8 53, .int .u8 54, .int .u8 55, .int .u8 56, .int .u8 57] t fr)) :
    Calls Try.prog 11 #[.int .u32 2615402659, .slice (some ⟨b, 0, none⟩) 5 5] w fun e w' => e = .returned (.int .u32 3421780262) ∧ Below w.heap.size w w' := by
  have h := more_any 2615402659 (some ⟨b, 0, none⟩) 5 5 [53, 54, 55, 56, 57] w (by omega) rfl (by omega) (bytesAt_new w _ _ t fr b (by decide) hb (by
    intro i hi; simp at hi
    match i, hi with
    | 0, _ => rfl | 1, _ => rfl | 2, _ => rfl | 3, _ => rfl | 4, _ => rfl))
  rw [known5] at h; exact h
set_option maxHeartbeats 1000000 in
theorem works_any (w : World) : Calls Try.prog 9 #[] w fun e w' => e = .returned (.bool true) ∧ Below w.heap.size w w' := by
  have kc := fun (w : World) (C : Array Value) (n c : Nat) => Lib.run_convert_bytes_const (P := Try.prog) w 26 5 C n c Try.underlying26 Try.underlying5
  go_enter Try.func9, Try.ntmps9
  go_wp2_with fail
  refine (sum9 _ _ _ _ (heap_alloc_new _ _)).mono ?_
  rintro e w1 ⟨rfl, hb1⟩
  have HB1 := Lib.hid hb1; clear hb1
  go_wp2_with fail
  refine (sum4 _ _ _ _ (heap_alloc_new _ _)).mono ?_
  rintro e w2 ⟨rfl, hb2⟩
  have HB2 := Lib.hid hb2; clear hb2
  go_wp2_with fail
  refine (more5 _ _ _ _ (heap_alloc_new _ _)).mono ?_
  rintro e w3 ⟨rfl, hb3⟩
  have HB3 := Lib.hid hb3; clear hb3
  go_wp2_with fail
  go_ret
  refine ⟨rfl, ?_⟩
  have h1 : Below w.heap.size w w1 := ((Below.refl _ _).alloc (Nat.le_refl _) _).trans (HB1.out.mono (by simp))
  have h2 : Below w.heap.size w w2 := (h1.alloc h1.size _).trans (HB2.out.mono (by have := h1.size; simp; omega))
  exact (h2.alloc h2.size _).trans (HB3.out.mono (by have := h2.size; simp; omega))
end Go.Proofs.Ytlngddbadpcocaa
