/- The walks of the statements over the sums: each returns true. -/
import Derived.Test.YtlngddbadpcocaaCrcWorks
namespace Go.Proofs.Ytlngddbadpcocaa
open Go.RowKit
set_option linter.unusedVariables false
/-- What the walk is told of a slice of integers that came in. -/
def IsRow (k : IntKind) (w : World) (a : Option Addr) (len cap : Nat) (zs : List Int) : Prop :=
  (a = none ∧ len = 0 ∧ cap = 0 ∧ zs = []) ∨
  ∃ x, a = some x ∧ len ≤ cap ∧ cap ≤ maxLen ∧ zs.length = cap ∧ (∀ i, i < zs.length → w.cell? (x.add i) = some (.int k (zs.getD i 0))) ∧ ∀ n ∈ zs, (Lit.int k n).wf = true
theorem IsRow.bytes {w : World} {a : Option Addr} {len cap : Nat} {zs : List Int} (h : IsRow .u8 w a len cap zs) :
    ∃ l : List Nat, l.length = len ∧ len ≤ cap ∧ cap ≤ maxLen ∧ BytesAt w a l := by
  rcases h with ⟨rfl, rfl, rfl, rfl⟩ | ⟨x, rfl, hl, hm, hz, hc, hw⟩
  · exact ⟨[], rfl, by omega, by unfold maxLen; omega, by simp, .inl rfl⟩
  · refine ⟨(zs.take len).map Int.toNat, by simp; omega, hl, hm, ?_, ?_⟩
    · intro c hcm
      obtain ⟨n, hn, rfl⟩ := List.mem_map.1 hcm
      have := bounds_u8 (hw n (List.mem_of_mem_take hn))
      omega
    · by_cases h0 : len = 0
      · left; subst h0; simp
      · right
        obtain ⟨b, off, rfl, hcc⟩ := ints_at hc (by omega)
        refine ⟨b, off, rfl, block_lt_of_cell (hcc 0 (by omega)), ?_⟩
        intro i hi
        simp at hi
        rw [hcc i (by omega)]
        have hmem : zs.getD i 0 ∈ zs := by
          rw [List.getD_eq_getElem?_getD, List.getElem?_eq_getElem (by omega)]; simp
        have := bounds_u8 (hw _ hmem)
        have e : ((zs.take len).map Int.toNat).getD i 0 = (zs.getD i 0).toNat := by
          simp only [List.getD_eq_getElem?_getD, List.getElem?_map, List.getElem?_take]
          rw [if_pos (by omega), List.getElem?_eq_getElem (by omega)]; simp
        rw [e, Int.toNat_of_nonneg this.1]

theorem bytesAt_nil (w : World) : BytesAt w none [] := ⟨by simp, .inl rfl⟩
theorem sumNil (w : World) : Calls Try.prog 10 #[.slice none 0 0] w fun e w' => e = .returned (.int .u32 0) ∧ Below w.heap.size w w' := sum_any none 0 0 [] w rfl (by omega) (bytesAt_nil w)
theorem moreNil (w : World) : Calls Try.prog 11 #[.int .u32 7, .slice none 0 0] w fun e w' => e = .returned (.int .u32 7) ∧ Below w.heap.size w w' := more_any 7 none 0 0 [] w (by omega) rfl (by omega) (bytesAt_nil w)
theorem known_walk (w : World) : Calls Try.prog 3 #[] w fun e w' => e = .returned (.bool true) ∧ Below w.heap.size w w' := by
  go_enter Try.func3, Try.ntmps3
  go_wp2_with fail
  refine (works_any _).mono ?_
  rintro e w1 ⟨rfl, hb1⟩
  have HB1 := Lib.hid hb1; clear hb1
  go_wp2_with fail
  refine (sumNil _).mono ?_
  rintro e w2 ⟨rfl, hb2⟩
  have HB2 := Lib.hid hb2; clear hb2
  go_wp2_with fail
  refine (moreNil _).mono ?_
  rintro e w3 ⟨rfl, hb3⟩
  have HB3 := Lib.hid hb3; clear hb3
  go_wp2_with fail
  go_ret
  have h2 : Below w.heap.size w w2 := HB1.out.trans (HB2.out.mono HB1.out.size)
  exact ⟨rfl, h2.trans (HB3.out.mono h2.size)⟩

set_option maxHeartbeats 1000000 in
theorem sums_walk (s : Int) (a : Option Addr) (len cap : Nat) (zs : List Int) (w : World) (ws : (Lit.int .u32 s).wf = true) (hr : IsRow .u8 w a len cap zs) :
    Calls Try.prog 4 #[.int .u32 s, .slice a len cap] w fun e w' => e = .returned (.bool true) ∧ Below w.heap.size w w' := by
  obtain ⟨hs0, hs1⟩ := bounds_u32 ws
  obtain ⟨s, rfl⟩ := Int.eq_ofNat_of_zero_le hs0
  obtain ⟨l, hlen, hcap, hmax, hby⟩ := hr.bytes
  have HY := Lib.hid hby; have HE := Lib.hid hlen
  unfold maxLen at hmax
  clear hby hlen hr ws
  by_cases hlt : 5000 < len
  · go_enter Try.func4, Try.ntmps4
    go_wp2_with fail
    refine (works_any _).mono ?_
    rintro e w1 ⟨rfl, hb1⟩
    go_wp2_with fail
    go_ret
    exact ⟨rfl, hb1⟩
  · go_enter Try.func4, Try.ntmps4
    go_wp2_with fail
    refine (sum_any a len cap l _ HE.out (by omega) HY.out).mono ?_
    rintro e w1 ⟨rfl, hb1⟩
    have HB1 := Lib.hid hb1; clear hb1
    have HY1 := Lib.hid (HY.out.below HB1.out)
    go_wp2_with fail
    refine (refSum_any a len cap l _ HE.out (by omega) HY1.out).mono ?_
    rintro e w1' ⟨rfl, rfl⟩
    go_wp2_with fail
    refine (more_any s a len cap l _ (by omega) HE.out (by omega) HY1.out).mono ?_
    rintro e w2 ⟨rfl, hb2⟩
    have HB2 := Lib.hid hb2; clear hb2
    have HY2 := Lib.hid (HY1.out.below HB2.out)
    go_wp2_with fail
    refine (refMore_any s a len cap l _ (by omega) HE.out (by omega) HY2.out).mono ?_
    rintro e w2' ⟨rfl, rfl⟩
    go_wp2_with fail
    refine (works_any _).mono ?_
    rintro e w3 ⟨rfl, hb3⟩
    have HB3 := Lib.hid hb3; clear hb3
    go_wp2_with fail
    go_ret
    have h2 : Below w.heap.size w w2 := HB1.out.trans (HB2.out.mono HB1.out.size)
    exact ⟨rfl, h2.trans (HB3.out.mono h2.size)⟩
end Go.Proofs.Ytlngddbadpcocaa
