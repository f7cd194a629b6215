/- Lists of numbers: Contains, IsSorted, within. -/
import Derived.Test.YtpodedhnlicckaaGreatDoorTab
import Derived.Test.YtpodedhnlicckaaGreatDoorCls
import Derived.Deep.CutRange
import Derived.Deep.RegionHeld3
namespace Go.Proofs.YtpodedhnlicckaaGreatDoor
open Go.RowKit
set_option linter.unusedVariables false
set_option linter.unusedSimpArgs false
def hasI (l : List Int) (x : Int) : Bool := l.any fun y => y == x
theorem hasI_iff {l : List Int} {x : Int} : hasI l x = true ↔ ∃ j, j < l.length ∧ l.getD j 0 = x := by
  unfold hasI
  simp only [List.any_eq_true, beq_iff_eq]
  constructor
  · rintro ⟨y, hy, rfl⟩
    obtain ⟨j, hj, e⟩ := List.mem_iff_getElem.1 hy
    exact ⟨j, hj, by rw [List.getD_eq_getElem?_getD, List.getElem?_eq_getElem hj]; exact e⟩
  · rintro ⟨j, hj, rfl⟩
    exact ⟨_, List.getElem_mem hj, by rw [List.getD_eq_getElem?_getD, List.getElem?_eq_getElem hj]; rfl⟩
theorem hasI_no {l : List Int} {x : Int} (h : ∀ j, j < l.length → l.getD j 0 ≠ x) : hasI l x = false := by
  cases e : hasI l x with
  | false => rfl
  | true => obtain ⟨j, hj, hx⟩ := hasI_iff.1 e; exact absurd hx (h j hj)
theorem getD_take {l : List Int} {k j : Nat} (h : j < k) : (l.take k).getD j 0 = l.getD j 0 := by
  rw [List.getD_eq_getElem?_getD, List.getD_eq_getElem?_getD, List.getElem?_take_of_lt h]
theorem IntsAt.cell {w : World} {a : Option Addr} {n c : Nat} {l : List Int} (h : IntsAt w (.slice a n c) l) {i : Nat} (hi : i < l.length) : ∃ b off, a = some ⟨b, off, none⟩ ∧ b < w.heap.size ∧ w.cell? ⟨b, off + i, none⟩ = some (.int .i64 (l.getD i 0)) := by
  obtain ⟨a', c', e, _, _, hs⟩ := h.at_
  cases e
  obtain ⟨b, off, rfl, hb, hc⟩ := hs.at (by omega)
  exact ⟨b, off, rfl, hb, hc i hi⟩
/-- The head of a list. -/
theorem IntsAt.take {w : World} {a : Option Addr} {c : Nat} {l : List Int} (h : IntsAt w (.slice a l.length c) l) {k : Nat} (hk : k ≤ l.length) : IntsAt w (.slice a k c) (l.take k) := by
  obtain ⟨⟨a', c', e, h1, h2, hs⟩, ho⟩ := h
  cases e
  have hl : (l.take k).length = k := by simp; omega
  refine ⟨⟨a, c, by rw [hl], by omega, h2, ?_⟩, fun i hi => ?_⟩
  · rw [hl]
    exact (hs.le hk).congr fun i hi => by show Value.int .i64 (l.getD i 0) = Value.int .i64 ((l.take k).getD i 0); rw [getD_take hi]
  · rw [hl] at hi
    rw [getD_take hi]
    exact ho i (by omega)
theorem IntsAt.size {w : World} {v : Value} {l : List Int} (h : IntsAt w v l) : l.length ≤ maxLen := by obtain ⟨a, c, _, h1, h2, _⟩ := h.at_; omega
set_option maxHeartbeats 1000000 in
theorem index_int (v : Value) (l : List Int) (x : Int) (w : World) (h : IntsAt w v l) :
    Calls Tryz.prog 80 #[v, .int .i64 x] w fun e w' => (∃ k : Int, e = .returned (.int .i64 k) ∧ decide (0 ≤ k) = hasI l x) ∧ w' = w := by
  have hsz := h.size
  unfold maxLen at hsz
  obtain ⟨a, c, rfl, hlc, hcm, _⟩ := h.at_
  have H := Lib.hid h
  clear h
  go_enter Tryz.func80, Tryz.ntmps80
  go_wp2_with fail
  go_loopw [8] (fun i wr => ∃ k : Nat, k ≤ l.length ∧ i = .int .i64 k ∧ (∀ j, j < k → l.getD j 0 ≠ x) ∧ wr = w) (fun i _ => l.length - (intOf i).toNat)
  case atStart => exact ⟨0, Nat.zero_le _, rfl, fun j hj => absurd hj (by omega), by first | trivial | rfl⟩
  case round =>
    obtain ⟨k, hk, rfl, hno, rfl⟩ := hrel
    have NO := Lib.hid hno
    clear hno
    by_cases hlt : k < l.length
    · obtain ⟨b, off, rfl, hb, x0⟩ := H.out.cell hlt
      by_cases hx : x = l.getD k 0
      · have HT : Hid (hasI l x = true) := hasI_iff.2 ⟨k, hlt, hx.symm⟩
        have t : (x == l.getD k 0) = true := by simpa using hx
        clear hx
        generalize l.getD k 0 = y at *
        go_wp2_with fail
        go_ret
        exact ⟨⟨_, rfl, by rw [HT.out]; simp⟩, by first | trivial | rfl⟩
      · have HX := Lib.hid hx
        have t : (x == l.getD k 0) = false := by simpa using hx
        clear hx
        generalize hy : l.getD k 0 = y at *
        have HY := Lib.hid hy
        clear hy
        go_wp2_with fail
        go_roundw
        case rel => exact ⟨k + 1, by omega, by go_num, fun j hj => (by
          by_cases e : j < k
          · exact NO.out j e
          · obtain rfl : j = k := by omega
            rw [HY.out]; exact fun h => HX.out h.symm), by first | trivial | rfl⟩
        case measure => simp [intOf]; omega
    · obtain rfl : k = l.length := by omega
      have HF : Hid (hasI l x = false) := hasI_no NO.out
      go_wp2_with fail
      go_ret
      exact ⟨⟨_, rfl, by rw [HF.out]; rfl⟩, by first | trivial | rfl⟩
theorem contains_int (v : Value) (l : List Int) (x : Int) (w : World) (h : IntsAt w v l) :
    Calls Tryz.prog 38 #[v, .int .i64 x] w fun e w' => e = .returned (.bool (hasI l x)) ∧ w' = w := by
  have HI := Lib.hid (index_int v l x w h)
  clear h
  generalize hasI l x = r at *
  go_enter Tryz.func38, Tryz.ntmps38
  go_wp2_with fail
  (with_reducible refine HI.out.mono ?_)
  rintro e w2 ⟨⟨k, rfl, hk⟩, rfl⟩
  go_wp2_with fail
  go_ret
  exact ⟨rfl, by first | trivial | rfl⟩
theorem isNaN_int (x : Int) (w : World) : Calls Tryz.prog 122 #[.int .i64 x] w fun e w' => e = .returned (.bool false) ∧ w' = w := by
  go_enter Tryz.func122, Tryz.ntmps122
  go_wp2_with fail
  go_ret
  exact ⟨rfl, by first | trivial | rfl⟩
theorem less_int (x y : Int) (w : World) : Calls Tryz.prog 102 #[.int .i64 x, .int .i64 y] w fun e w' => e = .returned (.bool (decide (x < y))) ∧ w' = w := by
  have HN := Lib.hid (isNaN_int x w)
  go_enter Tryz.func102, Tryz.ntmps102
  go_wp2_with fail
  (with_reducible refine HN.out.mono ?_)
  rintro e w2 ⟨rfl, rfl⟩
  go_wp2_with fail
  go_ret
  exact ⟨rfl, by first | trivial | rfl⟩
/-- None is below the one ahead of it. -/
def sortedI (l : List Int) : Bool := (List.range (l.length - 1)).all fun i => !decide (l.getD (i + 1) 0 < l.getD i 0)
theorem sortedI_iff {l : List Int} : sortedI l = true ↔ ∀ i, 0 < i → i < l.length → ¬ l.getD i 0 < l.getD (i - 1) 0 := by
  unfold sortedI
  simp only [List.all_eq_true, List.mem_range, Bool.not_eq_true', decide_eq_false_iff_not]
  constructor
  · intro h i h0 hi
    have := h (i - 1) (by omega)
    rw [show i - 1 + 1 = i by omega] at this
    exact this
  · intro h i hi
    have := h (i + 1) (by omega) (by omega)
    rw [Nat.add_sub_cancel] at this
    exact this
/-- Numbers from 0 on below n, none twice. -/
def withinI (l : List Int) (n : Int) : Bool := (List.range l.length).all fun i => decide (0 ≤ l.getD i 0) && decide (l.getD i 0 < n) && !hasI (l.take i) (l.getD i 0)
theorem withinI_iff {l : List Int} {n : Int} : withinI l n = true ↔ ∀ i, i < l.length → 0 ≤ l.getD i 0 ∧ l.getD i 0 < n ∧ hasI (l.take i) (l.getD i 0) = false := by
  unfold withinI
  simp only [List.all_eq_true, List.mem_range, Bool.and_eq_true, decide_eq_true_eq, Bool.not_eq_true', and_assoc]
theorem withinI_no {l : List Int} {n : Int} {i : Nat} (hi : i < l.length) (h : ¬ (0 ≤ l.getD i 0 ∧ l.getD i 0 < n ∧ hasI (l.take i) (l.getD i 0) = false)) : withinI l n = false := by
  cases e : withinI l n with
  | false => rfl
  | true => exact absurd (withinI_iff.1 e i hi) h
set_option maxHeartbeats 2000000 in
theorem within_any (v : Value) (l : List Int) (n : Int) (w : World) (h : IntsAt w v l) :
    Calls Tryz.prog 77 #[v, .int .i64 n] w fun e w' => e = .returned (.bool (withinI l n)) ∧ w' = w := by
  have hsz := h.size
  unfold maxLen at hsz
  obtain ⟨a, c, rfl, hlc, hcm, _⟩ := h.at_
  unfold maxLen at hcm
  have H := Lib.hid h
  clear h
  obtain ⟨F, hF⟩ : ∃ F, F = withinI l n := ⟨_, rfl⟩
  rw [← hF]
  have HF := Lib.hid hF
  clear hF
  go_enter Tryz.func77, Tryz.ntmps77
  go_wp2_with fail
  go_loopw [9] (fun i wr => ∃ k : Nat, k ≤ l.length ∧ i = .int .i64 k ∧ (∀ j, j < k → 0 ≤ l.getD j 0 ∧ l.getD j 0 < n ∧ hasI (l.take j) (l.getD j 0) = false) ∧ wr = w) (fun i _ => l.length - (intOf i).toNat)
  case atStart => exact ⟨0, Nat.zero_le _, rfl, fun j hj => absurd hj (by omega), by first | trivial | rfl⟩
  case round =>
    obtain ⟨k, hk, rfl, hno, rfl⟩ := hrel
    have NO := Lib.hid hno
    clear hno
    by_cases hlt : k < l.length
    · obtain ⟨b, off, rfl, hb, x0⟩ := H.out.cell hlt
      have HT := Lib.hid (H.out.take hk)
      generalize hy : l.getD k 0 = y at *
      have HY := Lib.hid hy
      clear hy
      by_cases t1 : y < 0
      · have t1' : decide (y < 0) = true := by simpa using t1
        have HH : Hid (¬ (0 ≤ y ∧ y < n ∧ hasI (l.take k) y = false)) := fun h => by have := h.1; omega
        clear t1
        have HX : Hid (F = false) := by
          show _ = _
          rw [HF.out]
          refine withinI_no hlt ?_
          rw [HY.out]
          exact HH.out
        go_wp2_with fail
        go_ret
        exact ⟨congrArg (fun x => Ending.returned (.bool x)) HX.out.symm, by first | trivial | rfl⟩
      · have t1' : decide (y < 0) = false := by simpa using t1
        by_cases t2 : n ≤ y
        · have t2' : decide (n ≤ y) = true := by simpa using t2
          have HH : Hid (¬ (0 ≤ y ∧ y < n ∧ hasI (l.take k) y = false)) := fun h => by have := h.2.1; omega
          clear t1 t2
          have HX : Hid (F = false) := by
            show _ = _
            rw [HF.out]
            refine withinI_no hlt ?_
            rw [HY.out]
            exact HH.out
          go_wp2_with fail
          go_ret
          exact ⟨congrArg (fun x => Ending.returned (.bool x)) HX.out.symm, by first | trivial | rfl⟩
        · have t2' : decide (n ≤ y) = false := by simp; omega
          have HC := Lib.hid (contains_int _ _ y wr HT.out)
          have HR : Hid (0 ≤ y ∧ y < n) := ⟨by omega, by omega⟩
          clear t1 t2
          cases hh : hasI (l.take k) y
          case true =>
            rw [hh] at HC
            have HH : Hid (¬ (0 ≤ y ∧ y < n ∧ hasI (l.take k) y = false)) := fun h => by rw [hh] at h; cases h.2.2
            have HX : Hid (F = false) := by
              show _ = _
              rw [HF.out]
              refine withinI_no hlt ?_
              rw [HY.out]
              exact HH.out
            clear hh
            go_wp2_with fail
            (with_reducible refine HC.out.mono ?_)
            rintro e w2 ⟨rfl, rfl⟩
            go_wp2_with fail
            go_ret
            exact ⟨congrArg (fun x => Ending.returned (.bool x)) HX.out.symm, by first | trivial | rfl⟩
          case false =>
            rw [hh] at HC
            have HH := Lib.hid hh
            clear hh
            go_wp2_with fail
            (with_reducible refine HC.out.mono ?_)
            rintro e w2 ⟨rfl, rfl⟩
            go_wp2_with fail
            go_roundw
            case rel => exact ⟨k + 1, by omega, by go_num, fun j hj => (by
              by_cases e : j < k
              · exact NO.out j e
              · obtain rfl : j = k := by omega
                rw [HY.out]; exact ⟨HR.out.1, HR.out.2, HH.out⟩), by first | trivial | rfl⟩
            case measure => simp [intOf]; omega
    · obtain rfl : k = l.length := by omega
      have HX : Hid (F = true) := by show _ = _; rw [HF.out]; exact withinI_iff.2 NO.out
      go_wp2_with fail
      go_ret
      exact ⟨congrArg (fun x => Ending.returned (.bool x)) HX.out.symm, by first | trivial | rfl⟩
end Go.Proofs.YtpodedhnlicckaaGreatDoor
