/- What the dog's calls and the reference's return. -/
import Derived.Test.YtfhojedkjdfkeaaBase
import Derived.Test.YtfhojedkjdfkeaaDogPlain
import Derived.Deep.QuietTactic
import Derived.BigQuiet
import Derived.BigRegion
import Derived.RegionTactic
namespace Go.Proofs.Ytfhojedkjdfkeaa
open Go.RowKit
set_option linter.unusedVariables false

/-- A dog lies in block g. -/
def DogAt (w : World) (g lim : Nat) (s : Nat × Bool) : Prop :=
  w.heap[g]? = some (.cells #[.int .i64 (lim : Int), .int .i64 (s.1 : Int), .bool s.2] 35 (0, 0))
theorem DogAt.other {w w' : World} {g h lim : Nat} {s : Nat × Bool} (hd : DogAt w g lim s) (hg : w.grownBy w' (some h)) (hne : g ≠ h) : DogAt w' g lim s := by
  unfold DogAt at *
  rw [hg.block g (heap_lt hd) (fun e => hne (by simpa using e))]; exact hd
theorem DogAt.below {w w' : World} {g lim : Nat} {s : Nat × Bool} (hd : DogAt w g lim s) (hb : Below w.heap.size w w') : DogAt w' g lim s := by
  unfold DogAt at *
  rw [hb.block g (heap_lt hd)]; exact hd

theorem new_zero (w : World) : Calls Try.prog 6 #[.int .u8 0] w fun e w' => e = .returned (.tuple #[.pointer none, .int .i64 2]) ∧ w = w' := by
  go_enter Try.func6, Try.ntmps6
  go_wp2
  go_ret2
  exact ⟨rfl, rfl⟩
theorem new_any (lim : Nat) (w : World) (h0 : 0 < lim) (h : lim < 256) :
    Calls Try.prog 6 #[.int .u8 (lim : Int)] w fun e w' => e = .returned (.tuple #[.pointer (some ⟨w.heap.size, 0, none⟩), .int .i64 0]) ∧ DogAt w' w.heap.size lim (0, false) ∧ Below w.heap.size w w' ∧ w'.heap.size = w.heap.size + 1 := by
  have ht : ((lim : Int) == 0) = false := by simp; omega
  go_enter Try.func6, Try.ntmps6
  go_wp2
  go_ret2
  exact ⟨rfl, heap_alloc_new _ _, (Below.refl _ _).alloc (Nat.le_refl _) _, by simp⟩
theorem bitten_nil (w : World) : Calls Try.prog 7 #[.pointer none] w fun e w' => e = .returned (.bool false) ∧ w = w' := by
  go_enter Try.func7, Try.ntmps7
  go_wp2
  go_ret
  exact ⟨rfl, rfl⟩
theorem bitten_any (g lim : Nat) (s : Nat × Bool) (w : World) (h : DogAt w g lim s) : Calls Try.prog 7 #[.pointer (some ⟨g, 0, none⟩)] w fun e w' => e = .returned (.bool s.2) ∧ w = w' := by
  have c2 : w.cell? ⟨g, 2, none⟩ = some (.bool s.2) := cell_row h rfl
  go_enter Try.func7, Try.ntmps7
  go_wp2
  go_ret
  exact ⟨rfl, rfl⟩
theorem left_nil (w : World) : Calls Try.prog 8 #[.pointer none] w fun e w' => e = .returned (.int .i64 0) ∧ w = w' := by
  go_enter Try.func8, Try.ntmps8
  go_wp2
  go_ret
  exact ⟨rfl, rfl⟩
theorem left_any (g lim : Nat) (s : Nat × Bool) (w : World) (h : DogAt w g lim s) (hl : lim ≤ 1000000) (hm : s.1 ≤ 1000000) :
    Calls Try.prog 8 #[.pointer (some ⟨g, 0, none⟩)] w fun e w' => e = .returned (.int .i64 ((lim : Int) - (s.1 : Int))) ∧ w.grownBy w' none := by
  have c0 : w.cell? ⟨g, 0, none⟩ = some (.int .i64 (lim : Int)) := cell_row h rfl
  have c1 : w.cell? ⟨g, 1, none⟩ = some (.int .i64 (s.1 : Int)) := cell_row h rfl
  go_enter Try.func8, Try.ntmps8
  go_wp2
  go_region
  go_wp2
  go_ret
  exact ⟨rfl, grown_drew (grown_refl _ _)⟩
theorem reset_nil (w : World) : Calls Try.prog 9 #[.pointer none] w fun e w' => e = .returned (.tuple #[]) ∧ w = w' := by
  go_enter Try.func9, Try.ntmps9
  go_wp2
  go_end0
  exact ⟨rfl, rfl⟩
theorem reset_any (g lim : Nat) (s : Nat × Bool) (w : World) (h : DogAt w g lim s) :
    Calls Try.prog 9 #[.pointer (some ⟨g, 0, none⟩)] w fun e w' => e = .returned (.tuple #[]) ∧ DogAt w' g lim (0, false) ∧ w.grownBy w' (some g) := by
  have H := Lib.hid h
  have c1 : w.cell? ⟨g, 1, none⟩ = some (.int .i64 (s.1 : Int)) := cell_row h rfl
  have c2 : w.cell? ⟨g, 2, none⟩ = some (.bool s.2) := cell_row h rfl
  have f1 : w.frozen? ⟨g, 1, none⟩ = false := frozen_of_row _ _ _ _ _ h
  have f2 : w.frozen? ⟨g, 2, none⟩ = false := frozen_of_row _ _ _ _ _ h
  clear h
  go_enter Try.func9, Try.ntmps9
  go_wp2
  go_end0
  refine ⟨rfl, ?_, grown_setCell (grown_setCell (grown_refl _ _) _) _⟩
  exact heap_setCell_same _ _ _ _ _ _ (heap_setCell_same _ _ _ _ _ _ H.out)
theorem fed_any (g lim : Nat) (s : Nat × Bool) (w : World) (h : DogAt w g lim s) :
    Calls Try.prog 14 #[.pointer (some ⟨g, 0, none⟩)] w fun e w' => e = .returned (.tuple #[]) ∧ DogAt w' g lim (0, s.2) ∧ w.grownBy w' (some g) := by
  have H := Lib.hid h
  have c1 : w.cell? ⟨g, 1, none⟩ = some (.int .i64 (s.1 : Int)) := cell_row h rfl
  have f1 : w.frozen? ⟨g, 1, none⟩ = false := frozen_of_row _ _ _ _ _ h
  clear h
  go_enter Try.func14, Try.ntmps14
  go_wp2
  go_end0
  refine ⟨rfl, ?_, grown_setCell (grown_refl _ _) _⟩
  exact heap_setCell_same _ _ _ _ _ _ H.out
theorem hungry_any (g lim : Nat) (s : Nat × Bool) (w : World) (h : DogAt w g lim s) (hl : lim ≤ 1000000) (hm : s.1 ≤ 1000000) :
    Calls Try.prog 13 #[.pointer (some ⟨g, 0, none⟩)] w fun e w' => e = .returned (.tuple #[]) ∧ DogAt w' g lim (s.1 + 1, decide (lim ≤ s.1 + 1)) ∧ w.grownBy w' (some g) := by
  have H := Lib.hid h
  have c0 : w.cell? ⟨g, 0, none⟩ = some (.int .i64 (lim : Int)) := cell_row h rfl
  have c1 : w.cell? ⟨g, 1, none⟩ = some (.int .i64 (s.1 : Int)) := cell_row h rfl
  have c2 : w.cell? ⟨g, 2, none⟩ = some (.bool s.2) := cell_row h rfl
  have f1 : w.frozen? ⟨g, 1, none⟩ = false := frozen_of_row _ _ _ _ _ h
  have f2 : w.frozen? ⟨g, 2, none⟩ = false := frozen_of_row _ _ _ _ _ h
  clear h
  go_enter Try.func13, Try.ntmps13
  go_wp2
  go_region
  go_end0
  refine ⟨rfl, ?_, grown_drew (grown_setCell (grown_setCell (grown_refl _ _) _) _)⟩
  have e1 : ((s.1 + 1 : Nat) : Int) = (s.1 : Int) + 1 := by omega
  have e2 : decide (lim ≤ s.1 + 1) = decide ((lim : Int) ≤ (s.1 : Int) + 1) := decide_eq_decide.2 (by omega)
  unfold DogAt
  rw [e1, e2]
  exact heap_setCell_same _ _ _ _ _ _ (heap_setCell_same _ _ _ _ _ _ H.out)

theorem frame_nil (y : Bool) (w : World) : Calls Try.prog 10 #[.pointer none, .bool y] w fun e w' => e = .returned (.bool false) ∧ w = w' := by
  go_enter Try.func10, Try.ntmps10
  go_wp2_with (go_at_call 7; (with_reducible refine (bitten_nil _).mono ?_); rintro e w1 ⟨rfl, rfl⟩)
  go_ret
  exact ⟨rfl, rfl⟩
theorem frame_any (g lim : Nat) (s s' : Nat × Bool) (y : Bool) (w : World) (h : DogAt w g lim s) (hl : lim ≤ 1000000) (hm : s.1 ≤ 1000000) (hs : Dp.step lim s y = s') :
    Calls Try.prog 10 #[.pointer (some ⟨g, 0, none⟩), .bool y] w fun e w' => e = .returned (.bool s'.2) ∧ DogAt w' g lim s' ∧ w.grownBy w' (some g) := by
  have H := Lib.hid h
  obtain ⟨m, b⟩ := s
  have HS := Lib.hid hs
  clear h hs
  cases b with
  | true =>
    have c2 : w.cell? ⟨g, 2, none⟩ = some (.bool true) := cell_row H.out rfl
    have hs : s' = (m, true) := HS.out.symm
    subst hs
    clear HS
    go_enter Try.func10, Try.ntmps10
    go_wp2_with (go_at_call 7; (with_reducible refine (bitten_any g lim (m, true) _ H.out).mono ?_); rintro e w1 ⟨rfl, rfl⟩)
    go_ret
    exact ⟨rfl, H.out, grown_refl _ _⟩
  | false =>
    have c2 : w.cell? ⟨g, 2, none⟩ = some (.bool false) := cell_row H.out rfl
    cases y with
    | true =>
      have hs : s' = (0, false) := HS.out.symm
      subst hs
      clear HS
      go_enter Try.func10, Try.ntmps10
      go_wp2_with fail
      refine (fed_any g lim (m, false) _ H.out).mono ?_
      rintro e w1 ⟨rfl, hd, hg⟩
      have c2' : w1.cell? ⟨g, 2, none⟩ = some (.bool false) := cell_row hd rfl
      have HD := Lib.hid hd; have HG := Lib.hid hg
      clear hd hg
      go_wp2_with fail
      go_ret
      exact ⟨rfl, HD.out, HG.out⟩
    | false =>
      obtain ⟨q, hq⟩ : ∃ q, q = decide (lim ≤ m + 1) := ⟨_, rfl⟩
      have hs : s' = (m + 1, q) := by rw [hq]; exact HS.out.symm
      subst hs
      have HQ := Lib.hid hq
      clear HS hq
      go_enter Try.func10, Try.ntmps10
      go_wp2_with fail
      refine (hungry_any g lim (m, false) _ H.out hl hm).mono ?_
      rintro e w1 ⟨rfl, hd, hg⟩
      have hd2 : DogAt w1 g lim (m + 1, q) := by rw [HQ.out]; exact hd
      have c2' : w1.cell? ⟨g, 2, none⟩ = some (.bool q) := cell_row hd2 rfl
      have HD := Lib.hid hd2; have HG := Lib.hid hg
      clear hd hd2 hg
      go_wp2_with fail
      go_ret
      exact ⟨rfl, HD.out, HG.out⟩

/-! ### the reference -/
set_option maxHeartbeats 1000000 in
theorem run_any (a : Option Addr) (m cap : Nat) (l : List Bool) (w : World) (hm : m ≤ 1000000) (hl : SliceAt w a m (boolV l)) (hll : m ≤ l.length) :
    Calls Try.prog 15 #[.slice a m cap] w fun e w' => e = .returned (.int .i64 (Dp.run l m : Nat)) ∧ w = w' := by
  have HL := Lib.hid hl
  clear hl
  go_enter Try.func15, Try.ntmps15
  go_wp2
  go_loop [3, 4] (fun n i => ∃ c : Nat, c ≤ m ∧ n = .int .i64 c ∧ i = .int .i64 ((m : Int) - 1 - (c : Int)) ∧ ∀ j, m - c ≤ j → j < m → l.getD j true = false) (fun n _ => m - (intOf n).toNat)
  case atStart => exact ⟨0, Nat.zero_le _, rfl, by go_num, fun j h1 h2 => by omega⟩
  case round =>
    obtain ⟨c, hc, rfl, rfl, hf⟩ := hrel
    have HF := Lib.hid hf
    clear hf
    by_cases hlt : c < m
    · obtain ⟨b, off, rfl, -, hcell⟩ := HL.out.at (by omega)
      have hc1 := hcell (m - 1 - c) (by omega)
      have hi : ((m : Int) - 1 - (c : Int)) = ((m - 1 - c : Nat) : Int) := by omega
      have hg : decide ((0 : Int) ≤ ((m - 1 - c : Nat) : Int)) = true := by simp
      have hb1 : m - 1 - c < m := by omega
      rw [hi]
      unfold boolV at hc1
      have HV : Hid (l.getD (m - 1 - c) true = l.getD (m - 1 - c) false) := by
        show l.getD (m - 1 - c) true = l.getD (m - 1 - c) false
        simp [List.getD_eq_getElem?_getD, List.getElem?_eq_getElem (show m - 1 - c < l.length by omega)]
      clear hcell
      have HI : Hid (((m - 1 - c : Nat) : Int) - 1 = (m : Int) - 1 - ((c + 1 : Nat) : Int)) := by show ((m - 1 - c : Nat) : Int) - 1 = (m : Int) - 1 - ((c + 1 : Nat) : Int); omega
      obtain ⟨i, hid⟩ : ∃ i, i = m - 1 - c := ⟨_, rfl⟩
      have HD := Lib.hid hid
      rw [← hid] at hc1 hg hb1 HV HI ⊢
      clear hid hi
      cases hv : l.getD i false with
      | true =>
        rw [hv] at hc1
        have HR : Hid (Dp.run l m = c) := Dp.run_of l m c hc HF.out (.inr (by rw [show m - c - 1 = i from by rw [HD.out]; omega, HV.out]; exact hv))
        clear hv
        go_wp2
        go_ret
        exact ⟨by rw [HR.out]; rfl, rfl⟩
      | false =>
        rw [hv] at hc1
        have HW : Hid (l.getD i true = false) := by show l.getD i true = false; rw [HV.out]; exact hv
        clear hv
        go_wp2
        go_round
        case rel =>
          refine ⟨c + 1, by omega, by go_num, by rw [← HI.out], ?_⟩
          intro j h1 h2
          by_cases e : j = i
          · rw [e]; exact HW.out
          · exact HF.out j (by have := HD.out; omega) h2
        case measure => simp [intOf]; omega
    · obtain rfl : c = m := by omega
      have HR : Hid (Dp.run l c = c) := Dp.run_of l c c hc HF.out (.inl rfl)
      have hi : ((c : Int) - 1 - (c : Int)) = -1 := by omega
      rw [hi]
      clear hi
      go_wp2
      go_ret
      exact ⟨by rw [HR.out]; rfl, rfl⟩

set_option maxHeartbeats 1000000 in
theorem refBitten_any (lim : Nat) (a : Option Addr) (m cap : Nat) (l : List Bool) (w : World) (hm : m ≤ 1000000) (hcap : m ≤ cap) (hmax : cap ≤ 9223372036854775807) (hlim : lim ≤ 1000000) (hl : SliceAt w a m (boolV l)) (hll : m ≤ l.length) :
    Calls Try.prog 11 #[.int .i64 (lim : Int), .slice a m cap] w fun e w' => e = .returned (.bool (Dp.bit lim l m)) ∧ w = w' := by
  have HL := Lib.hid hl
  clear hl
  go_enter Try.func11, Try.ntmps11
  go_wp2
  go_loop [5] (fun n => ∃ c : Nat, c ≤ m + 1 ∧ n = .int .i64 c ∧ ∀ j, j < c → Dp.run l j < lim) (fun n => m + 1 - (intOf n).toNat)
  case atStart => exact ⟨0, Nat.zero_le _, rfl, fun j h => by omega⟩
  case round =>
    obtain ⟨c, hc, rfl, hf⟩ := hrel
    have HF := Lib.hid hf
    clear hf
    by_cases hlt : c ≤ m
    · have h1 : (c : Int) ≤ (cap : Int) := by omega
      have hr := Dp.run_le l c
      by_cases hb : lim ≤ Dp.run l c
      · have HB : Hid (Dp.bit lim l m = true) := (Dp.bit_iff lim l m).2 ⟨c, hlt, hb⟩
        go_wp2_with (go_at_call 15; (with_reducible refine (run_any a c cap l _ (by omega) (HL.out.le hlt) (by omega)).mono ?_); rintro e w1 ⟨rfl, rfl⟩)
        go_ret
        exact ⟨by rw [HB.out]; rfl, rfl⟩
      · go_wp2_with (go_at_call 15; (with_reducible refine (run_any a c cap l _ (by omega) (HL.out.le hlt) (by omega)).mono ?_); rintro e w1 ⟨rfl, rfl⟩)
        go_round
        case rel =>
          refine ⟨c + 1, by omega, by go_num, ?_⟩
          intro j hj
          by_cases e : j = c
          · rw [e]; omega
          · exact HF.out j (by omega)
        case measure => simp [intOf]; omega
    · obtain rfl : c = m + 1 := by omega
      have HB : Hid (Dp.bit lim l m = false) := by
        show Dp.bit lim l m = false
        cases hb : Dp.bit lim l m with
        | false => rfl
        | true =>
          obtain ⟨n, hn, h⟩ := (Dp.bit_iff lim l m).1 hb
          have := HF.out n (by omega)
          omega
      go_wp2
      go_ret
      exact ⟨by rw [HB.out]; rfl, rfl⟩
theorem refLeft_any (lim : Nat) (a : Option Addr) (m cap : Nat) (l : List Bool) (w : World) (hm : m ≤ 1000000) (hcap : m ≤ cap) (hmax : cap ≤ 9223372036854775807) (hlim : lim ≤ 1000000) (h0 : 0 < lim) (hl : SliceAt w a m (boolV l)) (hll : m ≤ l.length) :
    Calls Try.prog 12 #[.int .i64 (lim : Int), .slice a m cap] w fun e w' => e = .returned (.int .i64 (Dp.left lim l m : Nat)) ∧ w = w' := by
  have HL := Lib.hid hl
  clear hl
  have hr := Dp.run_le l m
  cases hb : Dp.bit lim l m with
  | true =>
    have HF : Hid (Dp.left lim l m = 0) := by show Dp.left lim l m = 0; unfold Dp.left; rw [hb]; rfl
    have HC := refBitten_any lim a m cap l w hm hcap hmax hlim HL.out hll
    rw [hb] at HC
    have HC := Lib.hid HC
    clear hb
    go_enter Try.func12, Try.ntmps12
    go_wp2_with fail
    refine HC.out.mono ?_
    rintro e w1 ⟨rfl, rfl⟩
    go_wp2_with fail
    go_ret
    exact ⟨by rw [HF.out]; rfl, rfl⟩
  | false =>
    have hlt := (Dp.st_eq lim l h0 m).2.2 hb
    have HF : Hid (((Dp.left lim l m : Nat) : Int) = (lim : Int) - (Dp.run l m : Int)) := by show ((Dp.left lim l m : Nat) : Int) = _; unfold Dp.left; rw [hb]; simp; omega
    have HC := refBitten_any lim a m cap l w hm hcap hmax hlim HL.out hll
    rw [hb] at HC
    have HC := Lib.hid HC
    clear hb
    go_enter Try.func12, Try.ntmps12
    go_wp2_with fail
    refine HC.out.mono ?_
    rintro e w1 ⟨rfl, rfl⟩
    go_wp2_with fail
    refine (run_any a m cap l _ hm HL.out hll).mono ?_
    rintro e w2 ⟨rfl, rfl⟩
    go_wp2_with fail
    go_ret
    exact ⟨by rw [HF.out]; rfl, rfl⟩
end Go.Proofs.Ytfhojedkjdfkeaa
