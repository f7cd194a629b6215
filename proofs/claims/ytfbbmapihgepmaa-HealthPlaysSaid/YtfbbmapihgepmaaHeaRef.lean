/- What the reference's monitor returns. -/
import Derived.Test.YtfbbmapihgepmaaHeaOwnE
namespace Go.Proofs.Ytfbbmapihgepmaa
open Go.RowKit
set_option linter.unusedVariables false
abbrev Evs := List (Int × Nat)
def evCells (es : Evs) : List Value := es.flatMap fun e => [.int .i64 e.1, .int .u8 (e.2 : Int)]
theorem evCells_length (es : Evs) : (evCells es).length = es.length * 2 := by
  induction es with
  | nil => rfl
  | cons e es ih => show (_ :: _ :: evCells es).length = _; simp [ih]; omega
theorem evCells_get (es : Evs) : ∀ (i : Nat) (h : i < es.length), (evCells es)[i * 2]? = some (.int .i64 es[i].1) ∧ (evCells es)[i * 2 + 1]? = some (.int .u8 (es[i].2 : Int)) := by
  induction es with
  | nil => intro i h; simp at h
  | cons e es ih =>
    intro i h
    have hc : evCells (e :: es) = .int .i64 e.1 :: .int .u8 (e.2 : Int) :: evCells es := rfl
    rw [hc]
    cases i with
    | zero => exact ⟨rfl, rfl⟩
    | succ i =>
      have := ih i (by simpa using h)
      rw [show (i + 1) * 2 = i * 2 + 1 + 1 from by omega, show i * 2 + 1 + 1 + 1 = (i * 2 + 1) + 1 + 1 from rfl]
      simpa using this
/-- How often something was done with a partition. -/
def cnt (es : Evs) (p : Int) (act : Nat) : Nat := (es.filter fun e => e.1 == p && e.2 == act).length
theorem cnt_snoc (es : Evs) (e : Int × Nat) (p : Int) (act : Nat) : cnt (es ++ [e]) p act = cnt es p act + (if (e.1 == p && e.2 == act) = true then 1 else 0) := by
  unfold cnt
  rw [List.filter_append, List.length_append]
  congr 1
  by_cases h : (e.1 == p && e.2 == act) = true <;> simp [h]
theorem cnt_le (es : Evs) (p : Int) (act : Nat) : cnt es p act ≤ es.length := List.length_filter_le _ _
/-- The reference's monitor lies in block r; what was done lies behind it. -/
def RefAt (w : World) (r : Nat) (a : Option Addr) (len cap : Nat) (es : Evs) (sf : Bool) : Prop :=
  ∃ v : Value, w.heap[r]? = some (.cells #[.slice a len cap, v, .bool sf] 34 (0, 0)) ∧ w.ownsRow (r + 1) 60 2 v es.length (evCells es)
/-- Nothing but the monitor's block and a row of events is written. -/
structure EvFrame (r : Nat) (w w' : World) : Prop where
  size : w.heap.size ≤ w'.heap.size
  block : ∀ k, k < w.heap.size → k ≠ r → (∀ cs, w.heap[k]? ≠ some (.cells cs 60 (0, 0))) → w'.heap[k]? = w.heap[k]?
  below : Below r w w'
theorem MonAt.evf {w w' : World} {g r : Nat} {S : HMon} (h : MonAt w g S) (hf : EvFrame r w w') (hne : g ≠ r) : MonAt w' g S := by
  unfold MonAt at *
  rw [hf.block g (heap_lt h) hne (fun cs he => by rw [h] at he; simp at he)]; exact h
theorem RefAt.grown {w w' : World} {g r : Nat} {a : Option Addr} {len cap : Nat} {es : Evs} {sf : Bool} {S : HMon} (h : RefAt w r a len cap es sf) (hm : MonAt w g S) (hg : w.grownBy w' (some g)) (hne : r ≠ g) : RefAt w' r a len cap es sf := by
  obtain ⟨v, h1, h2⟩ := h
  refine ⟨v, (hg.block r (heap_lt h1) (fun e => hne (by simpa using e))).trans h1, h2.1, ?_⟩
  rcases h2.2 with h0 | ⟨o, c, cur, hv, ho, hh, hr⟩
  · exact .inl h0
  · refine .inr ⟨o, c, cur, hv, ho, ?_, hr⟩
    have hog : o ≠ g := by
      rintro rfl
      unfold MonAt at hm
      rw [hm] at hh; simp at hh
    rw [hg.block o (heap_lt hh) (fun e => hog (by simpa using e))]; exact hh
theorem RefAt.below {w w' : World} {r : Nat} {a : Option Addr} {len cap : Nat} {es : Evs} {sf : Bool} (h : RefAt w r a len cap es sf) (hb : Below w.heap.size w w') : RefAt w' r a len cap es sf := by
  obtain ⟨v, h1, h2⟩ := h
  refine ⟨v, (hb.block r (heap_lt h1)).trans h1, h2.1, ?_⟩
  rcases h2.2 with h0 | ⟨o, c, cur, hv, ho, hh, hr⟩
  · exact .inl h0
  · exact .inr ⟨o, c, cur, hv, ho, (hb.block o (heap_lt hh)).trans hh, hr⟩
theorem RefAt.lt {w : World} {r : Nat} {a : Option Addr} {len cap : Nat} {es : Evs} {sf : Bool} (h : RefAt w r a len cap es sf) : r < w.heap.size := by
  obtain ⟨v, h1, _⟩ := h; exact heap_lt h1

set_option maxHeartbeats 1000000 in
theorem count_any (r : Nat) (a : Option Addr) (len cap : Nat) (es : Evs) (sf : Bool) (p : Int) (act : Nat) (w : World) (h : RefAt w r a len cap es sf) (hn : es.length ≤ 100000) :
    Calls Try.prog 25 #[.pointer (some ⟨r, 0, none⟩), .int .i64 p, .int .u8 (act : Int)] w fun e w' => e = .returned (.int .u32 (cnt es p act : Nat)) ∧ w = w' := by
  obtain ⟨v, h1, hl, h2⟩ := h
  have c1 : w.cell? ⟨r, 1, none⟩ = some v := cell_row h1 rfl
  rcases h2 with ⟨rfl, h0⟩ | ⟨o, c, cur, rfl, ho, hh, hcap, hcm, hcs, htk⟩
  · obtain rfl : es = [] := List.length_eq_zero_iff.1 h0
    clear h1 hl
    go_enter Try.func25, Try.ntmps25
    go_wp2_with fail
    refine wp_loop_rounds 1 ?_
    rw [rounds_succ]
    go_wp2_with fail
    go_ret
    exact ⟨rfl, rfl⟩
  · have HC := Lib.hid h1
    have HG : Hid (∀ i, (hi : i < es.length) → w.cell? ⟨o, i * 2, none⟩ = some (.int .i64 es[i].1) ∧ w.cell? ⟨o, i * 2 + 1, none⟩ = some (.int .u8 (es[i].2 : Int))) := by
      intro i hi
      obtain ⟨g1, g2⟩ := evCells_get es i hi
      rw [← htk] at g1 g2
      rw [List.getElem?_take, if_pos (by omega)] at g1 g2
      exact ⟨cell_row hh (by simpa using g1), cell_row hh (by simpa using g2)⟩
    clear h1 hl hh hcs htk
    unfold maxLen at hcm
    go_enter Try.func25, Try.ntmps25
    go_wp2_with fail
    go_loop [7, 8] (fun n i => ∃ k : Nat, k ≤ es.length ∧ i = .int .i64 k ∧ n = .int .u32 (cnt (es.take k) p act : Nat)) (fun _ i => es.length - (intOf i).toNat)
    case atStart => exact ⟨0, Nat.zero_le _, rfl, rfl⟩
    case round =>
      obtain ⟨k, hk, rfl, rfl⟩ := hrel
      by_cases hlt : k < es.length
      · obtain ⟨g1, g2⟩ := HG.out k hlt
        have hcl : cnt (es.take k) p act ≤ es.length := Nat.le_trans (cnt_le _ _ _) (List.length_take_le' _ _)
        have hs : Hid (cnt (es.take (k + 1)) p act = cnt (es.take k) p act + (if (es[k].1 == p && es[k].2 == act) = true then 1 else 0)) := by
          show cnt (es.take (k + 1)) p act = _
          rw [List.take_succ_eq_append_getElem hlt, cnt_snoc]
        generalize es[k].1 = e1 at *
        generalize es[k].2 = e2 at *
        generalize cnt (es.take k) p act = c0 at *
        cases hb1 : (e1 == p) with
        | false =>
          have hs2 : Hid (cnt (es.take (k + 1)) p act = c0) := by
            have h := hs.out
            rw [hb1] at h
            show cnt (es.take (k + 1)) p act = c0
            simpa using h
          clear hs
          go_wp2_with fail
          go_round
          case rel => exact ⟨k + 1, by omega, by go_num, by rw [hs2.out]⟩
          case measure => simp [intOf]; omega
        | true =>
          cases hb2 : (e2 == act) with
          | false =>
            have hs2 : Hid (cnt (es.take (k + 1)) p act = c0) := by
              have h := hs.out
              rw [hb1, hb2] at h
              show cnt (es.take (k + 1)) p act = c0
              simpa using h
            have t2 : ((e2 : Int) == (act : Int)) = false := by simp at hb2 ⊢; omega
            clear hs
            go_wp2_with fail
            go_round
            case rel => exact ⟨k + 1, by omega, by go_num, by rw [hs2.out]⟩
            case measure => simp [intOf]; omega
          | true =>
            have hs2 : Hid (cnt (es.take (k + 1)) p act = c0 + 1) := by
              have h := hs.out
              rw [hb1, hb2] at h
              show cnt (es.take (k + 1)) p act = c0 + 1
              simpa using h
            have t2 : ((e2 : Int) == (act : Int)) = true := by simp at hb2 ⊢; omega
            clear hs
            go_wp2_with fail
            go_round
            case rel => exact ⟨k + 1, by omega, by go_num, by rw [hs2.out]; go_num⟩
            case measure => simp [intOf]; omega
      · obtain rfl : k = es.length := by omega
        go_wp2_with fail
        go_ret
        exact ⟨rfl, rfl⟩

/-- How the two monitors stand to one another. -/
structure RInv (D : Nat → HDef) (len : Nat) (S : HMon) (es : Evs) (sf : Bool) : Prop where
  n : S.n = len
  d : ∀ i, i < len → (S.l i).d = D i
  safe : S.safe = sf
  halted : ∀ i : Nat, i < len → (S.l i).halted = decide (0 < cnt es (i : Int) 1)
  rs : ∀ i : Nat, i < len → (S.l i).rs = cnt es (i : Int) 2
  parts : ∀ e, e ∈ es → ∃ i : Nat, i < len ∧ e.1 = (i : Int)
theorem RInv.none {D : Nat → HDef} {len : Nat} {S : HMon} {es : Evs} {sf : Bool} (h : RInv D len S es sf) (p : Int) (act : Nat) (hp : S.there p = false) : cnt es p act = 0 := by
  unfold cnt
  rw [List.length_eq_zero_iff, List.filter_eq_nil_iff]
  intro e he
  obtain ⟨i, hi, hei⟩ := h.parts e he
  intro hc
  simp at hc
  have : S.there p = true := by
    unfold HMon.there
    rw [h.n, ← hc.1, hei]; simp [hi]
  rw [this] at hp; cases hp
theorem RInv.rst {D : Nat → HDef} {len : Nat} {S : HMon} {es : Evs} {sf : Bool} (h : RInv D len S es sf) (p : Int) : S.rst p = cnt es p 2 := by
  unfold HMon.rst
  cases ht : S.there p with
  | false => rw [h.none p 2 ht]; rfl
  | true =>
    obtain ⟨i, rfl, hi⟩ := there_nat ht
    rw [Int.toNat_natCast]
    exact h.rs i (by rw [← h.n]; exact hi)
theorem RInv.runs {D : Nat → HDef} {len : Nat} {S : HMon} {es : Evs} {sf : Bool} (h : RInv D len S es sf) (p : Int) : S.runs p = (S.there p && !sf && decide (cnt es p 1 = 0)) := by
  unfold HMon.runs
  cases ht : S.there p with
  | false => rfl
  | true =>
    obtain ⟨i, rfl, hi⟩ := there_nat ht
    rw [Int.toNat_natCast, h.halted i (by rw [← h.n]; exact hi), h.safe]
    by_cases hc : cnt es (i : Int) 1 = 0
    · simp [hc]
    · have : 0 < cnt es (i : Int) 1 := by omega
      simp [hc, this]
theorem refRestarts_any (r : Nat) (a : Option Addr) (len cap : Nat) (es : Evs) (sf : Bool) (p : Int) (w : World) (h : RefAt w r a len cap es sf) (hn : es.length ≤ 100000) :
    Calls Try.prog 19 #[.pointer (some ⟨r, 0, none⟩), .int .i64 p] w fun e w' => e = .returned (.int .u32 (cnt es p 2 : Nat)) ∧ w = w' := by
  have HC := Lib.hid (count_any r a len cap es sf p 2 w h hn)
  clear h
  go_enter Try.func19, Try.ntmps19
  go_wp2_with fail
  refine HC.out.mono ?_
  rintro e w1 ⟨rfl, rfl⟩
  go_wp2_with fail
  go_ret
  exact ⟨rfl, rfl⟩
set_option maxHeartbeats 1000000 in
theorem refRuns_any (r : Nat) (a : Option Addr) (len cap : Nat) (es : Evs) (sf : Bool) (p : Int) (b : Bool) (w : World) (h : RefAt w r a len cap es sf) (hn : es.length ≤ 100000)
    (hb : b = (decide (0 ≤ p) && decide (p < (len : Int)) && !sf && decide (cnt es p 1 = 0))) :
    Calls Try.prog 17 #[.pointer (some ⟨r, 0, none⟩), .int .i64 p] w fun e w' => e = .returned (.bool b) ∧ w = w' := by
  have HC := Lib.hid (count_any r a len cap es sf p 1 w h hn)
  obtain ⟨v, h1, h2⟩ := h
  have c0 : w.cell? ⟨r, 0, none⟩ = some (.slice a len cap) := cell_row h1 rfl
  have c2 : w.cell? ⟨r, 2, none⟩ = some (.bool sf) := cell_row h1 rfl
  have hcl := cnt_le es p 1
  clear h1 h2
  generalize cnt es p 1 = c at *
  have HB := Lib.hid hb
  clear hb
  by_cases q1 : 0 ≤ p
  · have t1 : decide (0 ≤ p) = true := by simpa using q1
    by_cases q2 : p < (len : Int)
    · have t2 : decide (p < (len : Int)) = true := by simpa using q2
      cases sf with
      | true =>
        have hb := HB.out
        simp at hb
        subst hb
        go_enter Try.func17, Try.ntmps17
        go_wp2_with fail
        go_ret
        exact ⟨rfl, rfl⟩
      | false =>
        by_cases q3 : c = 0
        · subst q3
          have hb := HB.out
          simp [q1, q2] at hb
          subst hb
          go_enter Try.func17, Try.ntmps17
          go_wp2_with fail
          refine HC.out.mono ?_
          rintro e w1 ⟨rfl, rfl⟩
          go_wp2_with fail
          go_ret
          exact ⟨rfl, rfl⟩
        · have hb := HB.out
          simp [q3] at hb
          subst hb
          have t3 : ((c : Int) == 0) = false := by simp; omega
          have t4 : (c == 0) = false := by simpa using q3
          clear q3
          go_enter Try.func17, Try.ntmps17
          go_wp2_with fail
          refine HC.out.mono ?_
          rintro e w1 ⟨rfl, rfl⟩
          go_wp2_with fail
          go_ret
          exact ⟨rfl, rfl⟩
    · have t2 : decide (p < (len : Int)) = false := by simpa using q2
      have hb := HB.out
      rw [t2] at hb
      simp at hb
      subst hb
      go_enter Try.func17, Try.ntmps17
      go_wp2_with fail
      go_ret
      exact ⟨rfl, rfl⟩
  · have t1 : decide (0 ≤ p) = false := by simpa using q1
    have hb := HB.out
    rw [t1] at hb
    simp at hb
    subst hb
    go_enter Try.func17, Try.ntmps17
    go_wp2_with fail
    go_ret
    exact ⟨rfl, rfl⟩
theorem refReset_any (r : Nat) (a : Option Addr) (len cap : Nat) (es : Evs) (sf : Bool) (w : World) (h : RefAt w r a len cap es sf) :
    Calls Try.prog 14 #[.pointer (some ⟨r, 0, none⟩)] w fun e w' => e = .returned (.tuple #[]) ∧ RefAt w' r a len cap [] false ∧ w.grownBy w' (some r) := by
  obtain ⟨v, h1, h2⟩ := h
  have c1 : w.cell? ⟨r, 1, none⟩ = some v := cell_row h1 rfl
  have c2 : w.cell? ⟨r, 2, none⟩ = some (.bool sf) := cell_row h1 rfl
  have f1 : w.frozen? ⟨r, 1, none⟩ = false := frozen_of_row _ _ _ _ _ h1
  have f2 : w.frozen? ⟨r, 2, none⟩ = false := frozen_of_row _ _ _ _ _ h1
  have H1 := Lib.hid h1
  clear h1 h2
  go_enter Try.func14, Try.ntmps14
  go_wp2_with fail
  go_end0
  refine ⟨rfl, ⟨.slice none 0 0, ?_, rfl, .inl ⟨rfl, rfl⟩⟩, grown_setCell (grown_setCell (grown_refl _ _) _) _⟩
  exact heap_setCell_same _ _ _ _ _ _ (heap_setCell_same _ _ _ _ _ _ H1.out)
end Go.Proofs.Ytfbbmapihgepmaa
