/- The walk of CrcKeeps: what is handed in is not changed; the same bytes have the same sum. -/
import Derived.Test.YtlngddbadpcocaaCrcLaws
import Derived.Laws.BytesArg
import Derived.Laws.IdiomStrings
namespace Go.Proofs.Ytlngddbadpcocaa
open Go.RowKit
set_option linter.unusedVariables false
/-- The string of bytes. -/
def strOfB (l : List Nat) : ByteArray := strOfNums (l.map Int.ofNat)
theorem strOfB_size (l : List Nat) : (strOfB l).size = l.length := by unfold strOfB; rw [strOfNums_size]; simp
theorem convZero (w : World) (p : Option Addr) (c : Nat) : (convert 26 9 (.slice p 0 c)).run Try.prog w = .ok (.string ByteArray.empty) w := by
  rw [run_convert_bytes_string w 26 9 5 _ 0 c Try.underlying26 Try.underlying5 Try.underlying9]
  cases p <;> simp [Conv.bytesToString, loadCells]
  all_goals rfl
theorem toStr {w : World} {a : Option Addr} {l : List Nat} (h : BytesAt w a l) (len cap : Nat) (hlen : l.length = len) :
    (convert 26 9 (.slice a len cap)).run Try.prog w = .ok (.string (strOfB l)) w := by
  rcases h.2 with rfl | ⟨b, off, rfl, hlt, hc⟩
  · subst hlen
    exact convZero w a cap
  · exact run_convert_bytes_arg w 26 5 Try.underlying26 Try.underlying5 b off len cap (l.map Int.ofNat) (by simp; exact hlen) (fun i hi => by
        rw [hc i (by omega)]
        simp [List.getD_eq_getElem?_getD, List.getElem?_eq_getElem (show i < l.length by omega)]) 9 Try.underlying9
/-- The bytes of a string, laid anew. -/
theorem bytesAt_row (w : World) (l : List Nat) (hl : ∀ c ∈ l, c < 256) (b cap : Nat) (t : TypeId) (fr : Nat × Nat) (hb : w.heap[b]? = some (.cells (bytesRow (strOfB l) cap) t fr)) : BytesAt w (some ⟨b, 0, none⟩) l := by
  refine ⟨hl, .inr ⟨b, 0, rfl, ?_, fun i hi => ?_⟩⟩
  · by_cases hlt : b < w.heap.size
    · exact hlt
    · rw [Array.getElem?_eq_none (by omega)] at hb; cases hb
  · rw [Nat.zero_add]
    refine cell_row hb ?_
    have hs : (strOfB l).data.size = l.length := strOfB_size l
    unfold bytesRow
    rw [Array.getElem?_append_left (by rw [Array.size_map, hs]; exact hi)]
    have hc := hl _ (List.getElem_mem hi)
    simp [strOfB, strOfNums, List.getD_eq_getElem?_getD, List.getElem?_eq_getElem hi]
    omega
theorem BytesAt.drew {w : World} {a : Option Addr} {l : List Nat} (h : BytesAt w a l) : BytesAt w.drew a l := h.below (Below.refl _ _).drew

set_option maxHeartbeats 2000000 in
theorem keeps_walk (a : Option Addr) (len cap : Nat) (zs : List Int) (s : Int) (w : World) (hr : IsRow .u8 w a len cap zs) (ws : (Lit.int .u32 s).wf = true) :
    Calls Try.prog 8 #[.slice a len cap, .int .u32 s] w fun e w' => e = .returned (.bool true) ∧ Below w.heap.size w w' := by
  obtain ⟨hs0, hs1⟩ := bounds_u32 ws
  obtain ⟨s, rfl⟩ := Int.eq_ofNat_of_zero_le hs0
  obtain ⟨l, hlen, hcap, hmax, hby⟩ := hr.bytes
  have HY := Lib.hid hby; have HE := Lib.hid hlen
  have HZ : Hid (l.length = (strOfB l).size) := (strOfB_size l).symm
  have hz : (strOfB l).size ≤ len := by rw [strOfB_size]; omega
  unfold maxLen at hmax
  clear hby hlen hr ws
  by_cases hlt : 100000 < len
  · go_enter Try.func8, Try.ntmps8
    go_wp2_with fail
    refine (works_any _).mono ?_
    rintro e w1 ⟨rfl, hb1⟩
    go_wp2_with fail
    go_ret
    exact ⟨rfl, hb1⟩
  · have hst := toStr HY.out len cap HE.out
    have hbs := fun (w : World) (z : ByteArray) => run_bytes_of_string (P := Try.prog) w 9 26 5 z Try.underlying9 Try.underlying26 Try.underlying5
    go_enter Try.func8, Try.ntmps8
    go_wp2_with fail
    refine (sum_any a len cap l _ HE.out (by omega) HY.out).mono ?_
    rintro e w1 ⟨rfl, hb1⟩
    have HB1 := Lib.hid hb1; clear hb1
    have HY1 := Lib.hid (HY.out.below HB1.out)
    go_wp2_with fail
    refine (more_any s a len cap l _ (by omega) HE.out (by omega) HY1.out).mono ?_
    rintro e w2 ⟨rfl, hb2⟩
    have HB2 : Hid (Below w.heap.size w w2) := HB1.out.trans (hb2.mono HB1.out.size)
    clear hb2
    have HY2 := Lib.hid (HY.out.below HB2.out)
    have hst2 := toStr HY2.out len cap HE.out
    go_wp2_with fail
    refine (sum_any _ _ _ l _ HZ.out (by omega) (BytesAt.drew (bytesAt_row _ l HY.out.1 _ _ _ _ (heap_alloc_new _ _)))).mono ?_
    rintro e w3 ⟨rfl, hb3⟩
    have HB3 : Hid (Below w.heap.size w w3) := ((HB2.out.alloc HB2.out.size _).drew).trans (hb3.mono (by have := HB2.out.size; simp; omega))
    clear hb3
    go_wp2_with fail
    refine (more_any s _ _ _ l _ (by omega) HZ.out (by omega) (BytesAt.drew (bytesAt_row _ l HY.out.1 _ _ _ _ (heap_alloc_new _ _)))).mono ?_
    rintro e w4 ⟨rfl, hb4⟩
    have HB4 : Hid (Below w.heap.size w w4) := ((HB3.out.alloc HB3.out.size _).drew).trans (hb4.mono (by have := HB3.out.size; simp; omega))
    clear hb4
    go_wp2_with fail
    refine (works_any _).mono ?_
    rintro e w5 ⟨rfl, hb5⟩
    have HB5 : Hid (Below w.heap.size w w5) := HB4.out.trans (hb5.mono HB4.out.size)
    clear hb5
    go_wp2_with fail
    go_ret
    exact ⟨rfl, HB5.out⟩
end Go.Proofs.Ytlngddbadpcocaa
