/- may, New, Copy. -/
import Derived.Test.YtfochgpjpngnlaaMemPart
import Derived.Test.YtfochgpjpngnlaaRegF
namespace Go.Proofs.Ytfochgpjpngnlaa
open Go.RowKit
set_option linter.unusedVariables false
def mayBad (k right : Nat) : Prop := k ≠ 1 ∧ k ≠ 2 ∧ k ≠ 4 ∧ right ≠ 4
instance (k right : Nat) : Decidable (mayBad k right) := by unfold mayBad; exact inferInstance
def mayOk (N : Nat) (L : Nat → Reg) (l at_ k right : Nat) : Prop := (found L l at_ k right).isSome = true ∧ at_ + k ≤ N
instance (N : Nat) (L : Nat → Reg) (l at_ k right : Nat) : Decidable (mayOk N L l at_ k right) := by unfold mayOk; exact inferInstance
def mayE (N : Nat) (L : Nat → Reg) (l at_ k right : Nat) : Int := if mayBad k right then 2 else if mayOk N L l at_ k right then 0 else 60
def mayM (N : Nat) (L : Nat → Reg) (l at_ k right : Nat) : Nat := if mayBad k right then 0 else if mayOk N L l at_ k right then k else 0
theorem found_pos {L : Nat → Reg} {l at_ k right : Nat} (h : (found L l at_ k right).isSome = true) : k ≠ 0 := by
  intro e; subst e; unfold found at h; simp at h
def MayPost (M : MS) (L : Nat → Reg) (l at_ k right : Nat) (w : World) (e : Ending) (w' : World) : Prop := (∃ a c, e = .returned (.tuple #[.slice a (mayM M.n L l at_ k right) c, .int .i64 (mayE M.n L l at_ k right)]) ∧ PartOf M at_ a (mayM M.n L l at_ k right) c) ∧ Below w.heap.size w w'
theorem may_nil (a : Option Addr) (n c : Nat) (at_ k right : Int) (w : World) : Calls Try.prog 29 #[.pointer none, .slice a n c, .int .u32 at_, .int .u8 k, .int .u8 right] w fun e w' => e = .returned (.tuple #[.slice none 0 0, .int .i64 1]) ∧ w = w' := by
  go_enter Try.func29, Try.ntmps29
  go_wp2_with fail
  go_ret2
  exact ⟨rfl, rfl⟩
set_option maxHeartbeats 4000000 in
theorem may_any (M : MS) (a : Option Addr) (l c : Nat) (L : Nat → Reg) (at_ k right : Nat) (w : World) (h : MemAt w 57 M) (hL : RegsAt w a l L) (hl : l ≤ 9223372036854775807) (h1 : at_ < 4294967296) (h2 : k < 256) (h3 : right < 256) :
    Calls Try.prog 29 #[.pointer (some ⟨M.g, 0, none⟩), .slice a l c, .int .u32 (at_ : Int), .int .u8 (k : Int), .int .u8 (right : Int)] w (MayPost M L l at_ k right w) := by
  have HM := Lib.hid h
  have HP := Lib.hid (part_any M at_ k w h h1 (by omega))
  have HF := Lib.hid (find_any a l c L at_ k right w hL hl h1 (by omega) h3)
  clear h hL
  by_cases hbad : mayBad k right
  · obtain ⟨b1, b2, b3, b4⟩ := id hbad
    have HR : Hid (MayPost M L l at_ k right w (.returned (.tuple #[.slice none 0 0, .int .i64 2])) w) := ⟨⟨none, 0, by unfold mayM mayE; rw [if_pos hbad, if_pos hbad], by unfold mayM; rw [if_pos hbad]; exact PartOf.zero _ _⟩, Below.refl _ _⟩
    have t1 : ((k : Int) == 1) = false := by simp; omega
    have t1' : ((k : Int) != 1) = true := by simp; omega
    have t2 : ((k : Int) == 2) = false := by simp; omega
    have t2' : ((k : Int) != 2) = true := by simp; omega
    have t3 : ((k : Int) == 4) = false := by simp; omega
    have t3' : ((k : Int) != 4) = true := by simp; omega
    have t4 : ((right : Int) == 4) = false := by simp; omega
    have t4' : ((right : Int) != 4) = true := by simp; omega
    clear hbad b1 b2 b3 b4 HF HP
    go_enter Try.func29, Try.ntmps29
    go_wp2_with fail
    go_ret2
    exact HR.out
  have HB := Lib.hid hbad
  unfold mayBad at hbad
  by_cases c1 : k = 1
  · have t1 : ((k : Int) == 1) = true := by simp; omega
    have t1' : ((k : Int) != 1) = false := by simp; omega
    clear c1 hbad
    have HX := HP; have HY := HF
    clear HP HF
    go_enter Try.func29, Try.ntmps29
    go_wp2_with fail
    refine HX.out.mono ?_
    rintro e w' ⟨⟨pa, pc, rfl, hp⟩, rfl⟩
    have HPO := Lib.hid hp
    clear hp HX
    go_wp2_with fail
    refine HY.out.mono ?_
    rintro e w5 ⟨rfl, hb5⟩
    have B5 := Lib.hid hb5
    clear hb5 HY
    unfold findV
    by_cases hf : (found L l at_ k right).isSome = true
    · have hk0 := found_pos hf
      by_cases hn : at_ + k ≤ M.n
      · have hok : mayOk M.n L l at_ k right := ⟨hf, hn⟩
        have e1 : partM M.n at_ k = k := by unfold partM; rw [if_neg (by omega)]
        have e2 : partE M.n at_ k = 0 := by unfold partE; rw [if_neg hk0, if_neg (by omega)]
        have e3 : mayM M.n L l at_ k right = k := by unfold mayM; rw [if_neg HB.out, if_pos hok]
        have e4 : mayE M.n L l at_ k right = 0 := by unfold mayE; rw [if_neg HB.out, if_pos hok]
        rw [e1] at HPO
        rw [e1, e2, hf]
        have HR : Hid (MayPost M L l at_ k right w (.returned (.tuple #[.slice pa k pc, .int .i64 0])) w5) := ⟨⟨_, _, by rw [e3, e4], by rw [e3]; exact HPO.out⟩, B5.out⟩
        clear e1 e2 e3 e4 hok hf hn hk0
        generalize ((found L l at_ k right).getD 0) = fi
        go_wp2_with fail
        go_ret2
        exact HR.out
      · have hok : ¬ mayOk M.n L l at_ k right := fun h => hn h.2
        have e2 : partE M.n at_ k = 5 := by unfold partE; rw [if_neg hk0, if_pos (by omega)]
        have e3 : mayM M.n L l at_ k right = 0 := by unfold mayM; rw [if_neg HB.out, if_neg hok]
        have e4 : mayE M.n L l at_ k right = 60 := by unfold mayE; rw [if_neg HB.out, if_neg hok]
        rw [e2, hf]
        have HR : Hid (MayPost M L l at_ k right w (.returned (.tuple #[.slice none 0 0, .int .i64 60])) w5) := ⟨⟨none, 0, by rw [e3, e4], by rw [e3]; exact PartOf.zero _ _⟩, B5.out⟩
        clear e2 e3 e4 hok hf hn hk0
        generalize ((found L l at_ k right).getD 0) = fi
        go_wp2_with fail
        go_ret2
        exact HR.out
    · have hok : ¬ mayOk M.n L l at_ k right := fun h => hf h.1
      have hf' : (found L l at_ k right).isSome = false := by simpa using hf
      have e3 : mayM M.n L l at_ k right = 0 := by unfold mayM; rw [if_neg HB.out, if_neg hok]
      have e4 : mayE M.n L l at_ k right = 60 := by unfold mayE; rw [if_neg HB.out, if_neg hok]
      rw [hf']
      have HR : Hid (MayPost M L l at_ k right w (.returned (.tuple #[.slice none 0 0, .int .i64 60])) w5) := ⟨⟨none, 0, by rw [e3, e4], by rw [e3]; exact PartOf.zero _ _⟩, B5.out⟩
      clear e3 e4 hok hf hf'
      generalize ((found L l at_ k right).getD 0) = fi
      generalize partE M.n at_ k = pe
      go_wp2_with fail
      go_ret2
      exact HR.out
  have t1 : ((k : Int) == 1) = false := by simp; omega
  have t1' : ((k : Int) != 1) = true := by simp; omega
  by_cases c2 : k = 2
  · have t2 : ((k : Int) == 2) = true := by simp; omega
    have t2' : ((k : Int) != 2) = false := by simp; omega
    clear c1 c2 hbad
    have HX := HP; have HY := HF
    clear HP HF
    go_enter Try.func29, Try.ntmps29
    go_wp2_with fail
    refine HX.out.mono ?_
    rintro e w' ⟨⟨pa, pc, rfl, hp⟩, rfl⟩
    have HPO := Lib.hid hp
    clear hp HX
    go_wp2_with fail
    refine HY.out.mono ?_
    rintro e w5 ⟨rfl, hb5⟩
    have B5 := Lib.hid hb5
    clear hb5 HY
    unfold findV
    by_cases hf : (found L l at_ k right).isSome = true
    · have hk0 := found_pos hf
      by_cases hn : at_ + k ≤ M.n
      · have hok : mayOk M.n L l at_ k right := ⟨hf, hn⟩
        have e1 : partM M.n at_ k = k := by unfold partM; rw [if_neg (by omega)]
        have e2 : partE M.n at_ k = 0 := by unfold partE; rw [if_neg hk0, if_neg (by omega)]
        have e3 : mayM M.n L l at_ k right = k := by unfold mayM; rw [if_neg HB.out, if_pos hok]
        have e4 : mayE M.n L l at_ k right = 0 := by unfold mayE; rw [if_neg HB.out, if_pos hok]
        rw [e1] at HPO
        rw [e1, e2, hf]
        have HR : Hid (MayPost M L l at_ k right w (.returned (.tuple #[.slice pa k pc, .int .i64 0])) w5) := ⟨⟨_, _, by rw [e3, e4], by rw [e3]; exact HPO.out⟩, B5.out⟩
        clear e1 e2 e3 e4 hok hf hn hk0
        generalize ((found L l at_ k right).getD 0) = fi
        go_wp2_with fail
        go_ret2
        exact HR.out
      · have hok : ¬ mayOk M.n L l at_ k right := fun h => hn h.2
        have e2 : partE M.n at_ k = 5 := by unfold partE; rw [if_neg hk0, if_pos (by omega)]
        have e3 : mayM M.n L l at_ k right = 0 := by unfold mayM; rw [if_neg HB.out, if_neg hok]
        have e4 : mayE M.n L l at_ k right = 60 := by unfold mayE; rw [if_neg HB.out, if_neg hok]
        rw [e2, hf]
        have HR : Hid (MayPost M L l at_ k right w (.returned (.tuple #[.slice none 0 0, .int .i64 60])) w5) := ⟨⟨none, 0, by rw [e3, e4], by rw [e3]; exact PartOf.zero _ _⟩, B5.out⟩
        clear e2 e3 e4 hok hf hn hk0
        generalize ((found L l at_ k right).getD 0) = fi
        go_wp2_with fail
        go_ret2
        exact HR.out
    · have hok : ¬ mayOk M.n L l at_ k right := fun h => hf h.1
      have hf' : (found L l at_ k right).isSome = false := by simpa using hf
      have e3 : mayM M.n L l at_ k right = 0 := by unfold mayM; rw [if_neg HB.out, if_neg hok]
      have e4 : mayE M.n L l at_ k right = 60 := by unfold mayE; rw [if_neg HB.out, if_neg hok]
      rw [hf']
      have HR : Hid (MayPost M L l at_ k right w (.returned (.tuple #[.slice none 0 0, .int .i64 60])) w5) := ⟨⟨none, 0, by rw [e3, e4], by rw [e3]; exact PartOf.zero _ _⟩, B5.out⟩
      clear e3 e4 hok hf hf'
      generalize ((found L l at_ k right).getD 0) = fi
      generalize partE M.n at_ k = pe
      go_wp2_with fail
      go_ret2
      exact HR.out
  have t2 : ((k : Int) == 2) = false := by simp; omega
  have t2' : ((k : Int) != 2) = true := by simp; omega
  by_cases c3 : k = 4
  · have t3 : ((k : Int) == 4) = true := by simp; omega
    have t3' : ((k : Int) != 4) = false := by simp; omega
    clear c1 c2 c3 hbad
    have HX := HP; have HY := HF
    clear HP HF
    go_enter Try.func29, Try.ntmps29
    go_wp2_with fail
    refine HX.out.mono ?_
    rintro e w' ⟨⟨pa, pc, rfl, hp⟩, rfl⟩
    have HPO := Lib.hid hp
    clear hp HX
    go_wp2_with fail
    refine HY.out.mono ?_
    rintro e w5 ⟨rfl, hb5⟩
    have B5 := Lib.hid hb5
    clear hb5 HY
    unfold findV
    by_cases hf : (found L l at_ k right).isSome = true
    · have hk0 := found_pos hf
      by_cases hn : at_ + k ≤ M.n
      · have hok : mayOk M.n L l at_ k right := ⟨hf, hn⟩
        have e1 : partM M.n at_ k = k := by unfold partM; rw [if_neg (by omega)]
        have e2 : partE M.n at_ k = 0 := by unfold partE; rw [if_neg hk0, if_neg (by omega)]
        have e3 : mayM M.n L l at_ k right = k := by unfold mayM; rw [if_neg HB.out, if_pos hok]
        have e4 : mayE M.n L l at_ k right = 0 := by unfold mayE; rw [if_neg HB.out, if_pos hok]
        rw [e1] at HPO
        rw [e1, e2, hf]
        have HR : Hid (MayPost M L l at_ k right w (.returned (.tuple #[.slice pa k pc, .int .i64 0])) w5) := ⟨⟨_, _, by rw [e3, e4], by rw [e3]; exact HPO.out⟩, B5.out⟩
        clear e1 e2 e3 e4 hok hf hn hk0
        generalize ((found L l at_ k right).getD 0) = fi
        go_wp2_with fail
        go_ret2
        exact HR.out
      · have hok : ¬ mayOk M.n L l at_ k right := fun h => hn h.2
        have e2 : partE M.n at_ k = 5 := by unfold partE; rw [if_neg hk0, if_pos (by omega)]
        have e3 : mayM M.n L l at_ k right = 0 := by unfold mayM; rw [if_neg HB.out, if_neg hok]
        have e4 : mayE M.n L l at_ k right = 60 := by unfold mayE; rw [if_neg HB.out, if_neg hok]
        rw [e2, hf]
        have HR : Hid (MayPost M L l at_ k right w (.returned (.tuple #[.slice none 0 0, .int .i64 60])) w5) := ⟨⟨none, 0, by rw [e3, e4], by rw [e3]; exact PartOf.zero _ _⟩, B5.out⟩
        clear e2 e3 e4 hok hf hn hk0
        generalize ((found L l at_ k right).getD 0) = fi
        go_wp2_with fail
        go_ret2
        exact HR.out
    · have hok : ¬ mayOk M.n L l at_ k right := fun h => hf h.1
      have hf' : (found L l at_ k right).isSome = false := by simpa using hf
      have e3 : mayM M.n L l at_ k right = 0 := by unfold mayM; rw [if_neg HB.out, if_neg hok]
      have e4 : mayE M.n L l at_ k right = 60 := by unfold mayE; rw [if_neg HB.out, if_neg hok]
      rw [hf']
      have HR : Hid (MayPost M L l at_ k right w (.returned (.tuple #[.slice none 0 0, .int .i64 60])) w5) := ⟨⟨none, 0, by rw [e3, e4], by rw [e3]; exact PartOf.zero _ _⟩, B5.out⟩
      clear e3 e4 hok hf hf'
      generalize ((found L l at_ k right).getD 0) = fi
      generalize partE M.n at_ k = pe
      go_wp2_with fail
      go_ret2
      exact HR.out
  have t3 : ((k : Int) == 4) = false := by simp; omega
  have t3' : ((k : Int) != 4) = true := by simp; omega
  have t4 : ((right : Int) == 4) = true := by simp; omega
  have t4' : ((right : Int) != 4) = false := by simp; omega
  clear c1 c2 c3 hbad
  have HX := HP; have HY := HF
  clear HP HF
  go_enter Try.func29, Try.ntmps29
  go_wp2_with fail
  refine HX.out.mono ?_
  rintro e w' ⟨⟨pa, pc, rfl, hp⟩, rfl⟩
  have HPO := Lib.hid hp
  clear hp HX
  go_wp2_with fail
  refine HY.out.mono ?_
  rintro e w5 ⟨rfl, hb5⟩
  have B5 := Lib.hid hb5
  clear hb5 HY
  unfold findV
  by_cases hf : (found L l at_ k right).isSome = true
  · have hk0 := found_pos hf
    by_cases hn : at_ + k ≤ M.n
    · have hok : mayOk M.n L l at_ k right := ⟨hf, hn⟩
      have e1 : partM M.n at_ k = k := by unfold partM; rw [if_neg (by omega)]
      have e2 : partE M.n at_ k = 0 := by unfold partE; rw [if_neg hk0, if_neg (by omega)]
      have e3 : mayM M.n L l at_ k right = k := by unfold mayM; rw [if_neg HB.out, if_pos hok]
      have e4 : mayE M.n L l at_ k right = 0 := by unfold mayE; rw [if_neg HB.out, if_pos hok]
      rw [e1] at HPO
      rw [e1, e2, hf]
      have HR : Hid (MayPost M L l at_ k right w (.returned (.tuple #[.slice pa k pc, .int .i64 0])) w5) := ⟨⟨_, _, by rw [e3, e4], by rw [e3]; exact HPO.out⟩, B5.out⟩
      clear e1 e2 e3 e4 hok hf hn hk0
      generalize ((found L l at_ k right).getD 0) = fi
      go_wp2_with fail
      go_ret2
      exact HR.out
    · have hok : ¬ mayOk M.n L l at_ k right := fun h => hn h.2
      have e2 : partE M.n at_ k = 5 := by unfold partE; rw [if_neg hk0, if_pos (by omega)]
      have e3 : mayM M.n L l at_ k right = 0 := by unfold mayM; rw [if_neg HB.out, if_neg hok]
      have e4 : mayE M.n L l at_ k right = 60 := by unfold mayE; rw [if_neg HB.out, if_neg hok]
      rw [e2, hf]
      have HR : Hid (MayPost M L l at_ k right w (.returned (.tuple #[.slice none 0 0, .int .i64 60])) w5) := ⟨⟨none, 0, by rw [e3, e4], by rw [e3]; exact PartOf.zero _ _⟩, B5.out⟩
      clear e2 e3 e4 hok hf hn hk0
      generalize ((found L l at_ k right).getD 0) = fi
      go_wp2_with fail
      go_ret2
      exact HR.out
  · have hok : ¬ mayOk M.n L l at_ k right := fun h => hf h.1
    have hf' : (found L l at_ k right).isSome = false := by simpa using hf
    have e3 : mayM M.n L l at_ k right = 0 := by unfold mayM; rw [if_neg HB.out, if_neg hok]
    have e4 : mayE M.n L l at_ k right = 60 := by unfold mayE; rw [if_neg HB.out, if_neg hok]
    rw [hf']
    have HR : Hid (MayPost M L l at_ k right w (.returned (.tuple #[.slice none 0 0, .int .i64 60])) w5) := ⟨⟨none, 0, by rw [e3, e4], by rw [e3]; exact PartOf.zero _ _⟩, B5.out⟩
    clear e3 e4 hok hf hf'
    generalize ((found L l at_ k right).getD 0) = fi
    generalize partE M.n at_ k = pe
    go_wp2_with fail
    go_ret2
    exact HR.out
end Go.Proofs.Ytfochgpjpngnlaa
