/- The document's May. (Printed by gen_rmay.py.) -/
import Derived.Test.YtalmgjeiopjhlaaGreatDoorIsaRead
namespace Go.Proofs.YtalmgjeiopjhlaaGreatDoor
open Go.RowKit
set_option linter.unusedVariables false
set_option linter.unusedSimpArgs false
theorem row_rest0 : ∀ op, op < 28 → op = 0 ∨ op = 1 ∨ op = 19 ∨ op = 20 ∨ op = 17 ∨ op = 18 ∨ op = 23 ∨ op = 25 ∨ op = 21 ∨ op = 22 ∨ op = 24 ∨ op = 26 ∨ ((rowAt op).name ≠ [] ∧ (rowAt op).nm = 0) := by decide
theorem row_rest (op : Nat) (h : op < 28) (z : op ≠ 0) (o1 : op ≠ 1) (o19 : op ≠ 19) (o20 : op ≠ 20) (o17 : op ≠ 17) (o18 : op ≠ 18) (o23 : op ≠ 23) (o25 : op ≠ 25) (o21 : op ≠ 21) (o22 : op ≠ 22) (o24 : op ≠ 24) (o26 : op ≠ 26) : (rowAt op).name ≠ [] ∧ (rowAt op).nm = 0 := by
  rcases row_rest0 op h with e | e | e | e | e | e | e | e | e | e | e | e | e
  all_goals first | exact e | exact absurd e (by assumption)
theorem may_of {i : Ins} {nm : Nat} (h1 : (rowAt i.op).name ≠ []) (h2 : (rowAt i.op).nm = nm) : i.may = mayN nm i.a i.b i.c := by unfold Ins.may mayI; rw [if_neg h1, h2]
theorem may_no {i : Ins} (h : rowAt i.op = noRow) : i.may = false := by unfold Ins.may mayI; rw [if_pos (by rw [h]; rfl)]
set_option maxHeartbeats 8000000 in
set_option maxRecDepth 100000 in
theorem rmay_any (i : Ins) (w : World) (h : i.ok) :
    Calls Tryz.prog 30 #[i.val] w fun e w' => e = .returned (.bool i.may) ∧ Below w.heap.size w w' := by
  unfold Ins.val
  clear h
  by_cases o1 : i.op = 1
  case pos =>
    have E : i.may = mayN 4 i.a i.b i.c := may_of (by rw [o1]; decide) (by rw [o1]; rfl)
    have HE := Lib.hid E
    clear E
    have q1 : ((i.op : Int) == 1) = true := by simp; omega
    have q19 : ((i.op : Int) == 19) = false := by simp; omega
    have q20 : ((i.op : Int) == 20) = false := by simp; omega
    have q17 : ((i.op : Int) == 17) = false := by simp; omega
    have q18 : ((i.op : Int) == 18) = false := by simp; omega
    have q23 : ((i.op : Int) == 23) = false := by simp; omega
    have q25 : ((i.op : Int) == 25) = false := by simp; omega
    have q21 : ((i.op : Int) == 21) = false := by simp; omega
    have q22 : ((i.op : Int) == 22) = false := by simp; omega
    have q24 : ((i.op : Int) == 24) = false := by simp; omega
    have q26 : ((i.op : Int) == 26) = false := by simp; omega
    clear o1 
    by_cases ha : i.a = 0
    case neg =>
      have t_ha : ((i.a : Int) == 0) = false := by simp; omega
      have HV : Hid (i.may = false) := by show _ = _; rw [HE.out]; unfold mayN; simp [ha]
      clear ha HE
      rw [HV.out]
      clear HV
      go_enter Tryz.func30, Tryz.ntmps30
      go_wp2_with fail
      go_ret
      exact ⟨rfl, alloc_below _ _⟩
    have t_ha : ((i.a : Int) == 0) = true := by simp; omega
    by_cases hb : i.b = 0
    case neg =>
      have t_hb : ((i.b : Int) == 0) = false := by simp; omega
      have HV : Hid (i.may = false) := by show _ = _; rw [HE.out]; unfold mayN; simp [hb, ha]
      clear hb ha HE
      rw [HV.out]
      clear HV
      go_enter Tryz.func30, Tryz.ntmps30
      go_wp2_with fail
      go_ret
      exact ⟨rfl, alloc_below _ _⟩
    have t_hb : ((i.b : Int) == 0) = true := by simp; omega
    have HV : Hid (i.may = true) := by show _ = _; rw [HE.out]; unfold mayN; simp [ha, hb]
    clear ha hb HE
    rw [HV.out]
    clear HV
    go_enter Tryz.func30, Tryz.ntmps30
    go_wp2_with fail
    go_ret
    exact ⟨rfl, alloc_below _ _⟩
  by_cases o19 : i.op = 19
  case pos =>
    have E : i.may = mayN 4 i.a i.b i.c := may_of (by rw [o19]; decide) (by rw [o19]; rfl)
    have HE := Lib.hid E
    clear E
    have q1 : ((i.op : Int) == 1) = false := by simp; omega
    have q19 : ((i.op : Int) == 19) = true := by simp; omega
    have q20 : ((i.op : Int) == 20) = false := by simp; omega
    have q17 : ((i.op : Int) == 17) = false := by simp; omega
    have q18 : ((i.op : Int) == 18) = false := by simp; omega
    have q23 : ((i.op : Int) == 23) = false := by simp; omega
    have q25 : ((i.op : Int) == 25) = false := by simp; omega
    have q21 : ((i.op : Int) == 21) = false := by simp; omega
    have q22 : ((i.op : Int) == 22) = false := by simp; omega
    have q24 : ((i.op : Int) == 24) = false := by simp; omega
    have q26 : ((i.op : Int) == 26) = false := by simp; omega
    clear o19 o1
    by_cases ha : i.a = 0
    case neg =>
      have t_ha : ((i.a : Int) == 0) = false := by simp; omega
      have HV : Hid (i.may = false) := by show _ = _; rw [HE.out]; unfold mayN; simp [ha]
      clear ha HE
      rw [HV.out]
      clear HV
      go_enter Tryz.func30, Tryz.ntmps30
      go_wp2_with fail
      go_ret
      exact ⟨rfl, alloc_below _ _⟩
    have t_ha : ((i.a : Int) == 0) = true := by simp; omega
    by_cases hb : i.b = 0
    case neg =>
      have t_hb : ((i.b : Int) == 0) = false := by simp; omega
      have HV : Hid (i.may = false) := by show _ = _; rw [HE.out]; unfold mayN; simp [hb, ha]
      clear hb ha HE
      rw [HV.out]
      clear HV
      go_enter Tryz.func30, Tryz.ntmps30
      go_wp2_with fail
      go_ret
      exact ⟨rfl, alloc_below _ _⟩
    have t_hb : ((i.b : Int) == 0) = true := by simp; omega
    have HV : Hid (i.may = true) := by show _ = _; rw [HE.out]; unfold mayN; simp [ha, hb]
    clear ha hb HE
    rw [HV.out]
    clear HV
    go_enter Tryz.func30, Tryz.ntmps30
    go_wp2_with fail
    go_ret
    exact ⟨rfl, alloc_below _ _⟩
  by_cases o20 : i.op = 20
  case pos =>
    have E : i.may = mayN 4 i.a i.b i.c := may_of (by rw [o20]; decide) (by rw [o20]; rfl)
    have HE := Lib.hid E
    clear E
    have q1 : ((i.op : Int) == 1) = false := by simp; omega
    have q19 : ((i.op : Int) == 19) = false := by simp; omega
    have q20 : ((i.op : Int) == 20) = true := by simp; omega
    have q17 : ((i.op : Int) == 17) = false := by simp; omega
    have q18 : ((i.op : Int) == 18) = false := by simp; omega
    have q23 : ((i.op : Int) == 23) = false := by simp; omega
    have q25 : ((i.op : Int) == 25) = false := by simp; omega
    have q21 : ((i.op : Int) == 21) = false := by simp; omega
    have q22 : ((i.op : Int) == 22) = false := by simp; omega
    have q24 : ((i.op : Int) == 24) = false := by simp; omega
    have q26 : ((i.op : Int) == 26) = false := by simp; omega
    clear o20 o1 o19
    by_cases ha : i.a = 0
    case neg =>
      have t_ha : ((i.a : Int) == 0) = false := by simp; omega
      have HV : Hid (i.may = false) := by show _ = _; rw [HE.out]; unfold mayN; simp [ha]
      clear ha HE
      rw [HV.out]
      clear HV
      go_enter Tryz.func30, Tryz.ntmps30
      go_wp2_with fail
      go_ret
      exact ⟨rfl, alloc_below _ _⟩
    have t_ha : ((i.a : Int) == 0) = true := by simp; omega
    by_cases hb : i.b = 0
    case neg =>
      have t_hb : ((i.b : Int) == 0) = false := by simp; omega
      have HV : Hid (i.may = false) := by show _ = _; rw [HE.out]; unfold mayN; simp [hb, ha]
      clear hb ha HE
      rw [HV.out]
      clear HV
      go_enter Tryz.func30, Tryz.ntmps30
      go_wp2_with fail
      go_ret
      exact ⟨rfl, alloc_below _ _⟩
    have t_hb : ((i.b : Int) == 0) = true := by simp; omega
    have HV : Hid (i.may = true) := by show _ = _; rw [HE.out]; unfold mayN; simp [ha, hb]
    clear ha hb HE
    rw [HV.out]
    clear HV
    go_enter Tryz.func30, Tryz.ntmps30
    go_wp2_with fail
    go_ret
    exact ⟨rfl, alloc_below _ _⟩
  by_cases o17 : i.op = 17
  case pos =>
    have E : i.may = mayN 12 i.a i.b i.c := may_of (by rw [o17]; decide) (by rw [o17]; rfl)
    have HE := Lib.hid E
    clear E
    have q1 : ((i.op : Int) == 1) = false := by simp; omega
    have q19 : ((i.op : Int) == 19) = false := by simp; omega
    have q20 : ((i.op : Int) == 20) = false := by simp; omega
    have q17 : ((i.op : Int) == 17) = true := by simp; omega
    have q18 : ((i.op : Int) == 18) = false := by simp; omega
    have q23 : ((i.op : Int) == 23) = false := by simp; omega
    have q25 : ((i.op : Int) == 25) = false := by simp; omega
    have q21 : ((i.op : Int) == 21) = false := by simp; omega
    have q22 : ((i.op : Int) == 22) = false := by simp; omega
    have q24 : ((i.op : Int) == 24) = false := by simp; omega
    have q26 : ((i.op : Int) == 26) = false := by simp; omega
    clear o17 o1 o19 o20
    by_cases h1 : i.a = 1
    case pos =>
      have ta1 : ((i.a : Int) == 1) = true := by simp; omega
      by_cases hb : i.b = 0
      case neg =>
        have tb : ((i.b : Int) == 0) = false := by simp; omega
        have HV : Hid (i.may = false) := by show _ = _; rw [HE.out]; unfold mayN; simp [hb, h1]
        clear hb h1 HE
        rw [HV.out]
        clear HV
        go_enter Tryz.func30, Tryz.ntmps30
        go_wp2_with fail
        go_ret
        exact ⟨rfl, alloc_below _ _⟩
      have tb : ((i.b : Int) == 0) = true := by simp; omega
      have HV : Hid (i.may = true) := by show _ = _; rw [HE.out]; unfold mayN; simp [hb, h1]
      clear hb h1 HE
      rw [HV.out]
      clear HV
      go_enter Tryz.func30, Tryz.ntmps30
      go_wp2_with fail
      go_ret
      exact ⟨rfl, alloc_below _ _⟩
    have ta1 : ((i.a : Int) == 1) = false := by simp; omega
    by_cases h2 : i.a = 2
    case pos =>
      have ta2 : ((i.a : Int) == 2) = true := by simp; omega
      by_cases hb : i.b = 0
      case neg =>
        have tb : ((i.b : Int) == 0) = false := by simp; omega
        have HV : Hid (i.may = false) := by show _ = _; rw [HE.out]; unfold mayN; simp [hb, h2, h1]
        clear hb h2 h1 HE
        rw [HV.out]
        clear HV
        go_enter Tryz.func30, Tryz.ntmps30
        go_wp2_with fail
        go_ret
        exact ⟨rfl, alloc_below _ _⟩
      have tb : ((i.b : Int) == 0) = true := by simp; omega
      have HV : Hid (i.may = true) := by show _ = _; rw [HE.out]; unfold mayN; simp [hb, h2, h1]
      clear hb h2 h1 HE
      rw [HV.out]
      clear HV
      go_enter Tryz.func30, Tryz.ntmps30
      go_wp2_with fail
      go_ret
      exact ⟨rfl, alloc_below _ _⟩
    have ta2 : ((i.a : Int) == 2) = false := by simp; omega
    by_cases h4 : i.a = 4
    case pos =>
      have ta4 : ((i.a : Int) == 4) = true := by simp; omega
      by_cases hb : i.b = 0
      case neg =>
        have tb : ((i.b : Int) == 0) = false := by simp; omega
        have HV : Hid (i.may = false) := by show _ = _; rw [HE.out]; unfold mayN; simp [hb, h4, h1, h2]
        clear hb h4 h1 h2 HE
        rw [HV.out]
        clear HV
        go_enter Tryz.func30, Tryz.ntmps30
        go_wp2_with fail
        go_ret
        exact ⟨rfl, alloc_below _ _⟩
      have tb : ((i.b : Int) == 0) = true := by simp; omega
      have HV : Hid (i.may = true) := by show _ = _; rw [HE.out]; unfold mayN; simp [hb, h4, h1, h2]
      clear hb h4 h1 h2 HE
      rw [HV.out]
      clear HV
      go_enter Tryz.func30, Tryz.ntmps30
      go_wp2_with fail
      go_ret
      exact ⟨rfl, alloc_below _ _⟩
    have ta4 : ((i.a : Int) == 4) = false := by simp; omega
    have HV : Hid (i.may = false) := by show _ = _; rw [HE.out]; unfold mayN; simp [h1, h2, h4]
    clear h1 h2 h4 HE
    rw [HV.out]
    clear HV
    go_enter Tryz.func30, Tryz.ntmps30
    go_wp2_with fail
    go_ret
    exact ⟨rfl, alloc_below _ _⟩
  by_cases o18 : i.op = 18
  case pos =>
    have E : i.may = mayN 12 i.a i.b i.c := may_of (by rw [o18]; decide) (by rw [o18]; rfl)
    have HE := Lib.hid E
    clear E
    have q1 : ((i.op : Int) == 1) = false := by simp; omega
    have q19 : ((i.op : Int) == 19) = false := by simp; omega
    have q20 : ((i.op : Int) == 20) = false := by simp; omega
    have q17 : ((i.op : Int) == 17) = false := by simp; omega
    have q18 : ((i.op : Int) == 18) = true := by simp; omega
    have q23 : ((i.op : Int) == 23) = false := by simp; omega
    have q25 : ((i.op : Int) == 25) = false := by simp; omega
    have q21 : ((i.op : Int) == 21) = false := by simp; omega
    have q22 : ((i.op : Int) == 22) = false := by simp; omega
    have q24 : ((i.op : Int) == 24) = false := by simp; omega
    have q26 : ((i.op : Int) == 26) = false := by simp; omega
    clear o18 o1 o19 o20 o17
    by_cases h1 : i.a = 1
    case pos =>
      have ta1 : ((i.a : Int) == 1) = true := by simp; omega
      by_cases hb : i.b = 0
      case neg =>
        have tb : ((i.b : Int) == 0) = false := by simp; omega
        have HV : Hid (i.may = false) := by show _ = _; rw [HE.out]; unfold mayN; simp [hb, h1]
        clear hb h1 HE
        rw [HV.out]
        clear HV
        go_enter Tryz.func30, Tryz.ntmps30
        go_wp2_with fail
        go_ret
        exact ⟨rfl, alloc_below _ _⟩
      have tb : ((i.b : Int) == 0) = true := by simp; omega
      have HV : Hid (i.may = true) := by show _ = _; rw [HE.out]; unfold mayN; simp [hb, h1]
      clear hb h1 HE
      rw [HV.out]
      clear HV
      go_enter Tryz.func30, Tryz.ntmps30
      go_wp2_with fail
      go_ret
      exact ⟨rfl, alloc_below _ _⟩
    have ta1 : ((i.a : Int) == 1) = false := by simp; omega
    by_cases h2 : i.a = 2
    case pos =>
      have ta2 : ((i.a : Int) == 2) = true := by simp; omega
      by_cases hb : i.b = 0
      case neg =>
        have tb : ((i.b : Int) == 0) = false := by simp; omega
        have HV : Hid (i.may = false) := by show _ = _; rw [HE.out]; unfold mayN; simp [hb, h2, h1]
        clear hb h2 h1 HE
        rw [HV.out]
        clear HV
        go_enter Tryz.func30, Tryz.ntmps30
        go_wp2_with fail
        go_ret
        exact ⟨rfl, alloc_below _ _⟩
      have tb : ((i.b : Int) == 0) = true := by simp; omega
      have HV : Hid (i.may = true) := by show _ = _; rw [HE.out]; unfold mayN; simp [hb, h2, h1]
      clear hb h2 h1 HE
      rw [HV.out]
      clear HV
      go_enter Tryz.func30, Tryz.ntmps30
      go_wp2_with fail
      go_ret
      exact ⟨rfl, alloc_below _ _⟩
    have ta2 : ((i.a : Int) == 2) = false := by simp; omega
    by_cases h4 : i.a = 4
    case pos =>
      have ta4 : ((i.a : Int) == 4) = true := by simp; omega
      by_cases hb : i.b = 0
      case neg =>
        have tb : ((i.b : Int) == 0) = false := by simp; omega
        have HV : Hid (i.may = false) := by show _ = _; rw [HE.out]; unfold mayN; simp [hb, h4, h1, h2]
        clear hb h4 h1 h2 HE
        rw [HV.out]
        clear HV
        go_enter Tryz.func30, Tryz.ntmps30
        go_wp2_with fail
        go_ret
        exact ⟨rfl, alloc_below _ _⟩
      have tb : ((i.b : Int) == 0) = true := by simp; omega
      have HV : Hid (i.may = true) := by show _ = _; rw [HE.out]; unfold mayN; simp [hb, h4, h1, h2]
      clear hb h4 h1 h2 HE
      rw [HV.out]
      clear HV
      go_enter Tryz.func30, Tryz.ntmps30
      go_wp2_with fail
      go_ret
      exact ⟨rfl, alloc_below _ _⟩
    have ta4 : ((i.a : Int) == 4) = false := by simp; omega
    have HV : Hid (i.may = false) := by show _ = _; rw [HE.out]; unfold mayN; simp [h1, h2, h4]
    clear h1 h2 h4 HE
    rw [HV.out]
    clear HV
    go_enter Tryz.func30, Tryz.ntmps30
    go_wp2_with fail
    go_ret
    exact ⟨rfl, alloc_below _ _⟩
  by_cases o23 : i.op = 23
  case pos =>
    have E : i.may = mayN 3 i.a i.b i.c := may_of (by rw [o23]; decide) (by rw [o23]; rfl)
    have HE := Lib.hid E
    clear E
    have q1 : ((i.op : Int) == 1) = false := by simp; omega
    have q19 : ((i.op : Int) == 19) = false := by simp; omega
    have q20 : ((i.op : Int) == 20) = false := by simp; omega
    have q17 : ((i.op : Int) == 17) = false := by simp; omega
    have q18 : ((i.op : Int) == 18) = false := by simp; omega
    have q23 : ((i.op : Int) == 23) = true := by simp; omega
    have q25 : ((i.op : Int) == 25) = false := by simp; omega
    have q21 : ((i.op : Int) == 21) = false := by simp; omega
    have q22 : ((i.op : Int) == 22) = false := by simp; omega
    have q24 : ((i.op : Int) == 24) = false := by simp; omega
    have q26 : ((i.op : Int) == 26) = false := by simp; omega
    clear o23 o1 o19 o20 o17 o18
    by_cases ha : i.a < 16
    case neg =>
      have t_ha : decide ((i.a : Int) < 16) = false := by simp; omega
      have HV : Hid (i.may = false) := by show _ = _; rw [HE.out]; unfold mayN; simp [ha]
      clear ha HE
      rw [HV.out]
      clear HV
      go_enter Tryz.func30, Tryz.ntmps30
      go_wp2_with fail
      go_ret
      exact ⟨rfl, alloc_below _ _⟩
    have t_ha : decide ((i.a : Int) < 16) = true := by simp; omega
    by_cases hb : i.b < 16
    case neg =>
      have t_hb : decide ((i.b : Int) < 16) = false := by simp; omega
      have HV : Hid (i.may = false) := by show _ = _; rw [HE.out]; unfold mayN; simp [hb, ha]
      clear hb ha HE
      rw [HV.out]
      clear HV
      go_enter Tryz.func30, Tryz.ntmps30
      go_wp2_with fail
      go_ret
      exact ⟨rfl, alloc_below _ _⟩
    have t_hb : decide ((i.b : Int) < 16) = true := by simp; omega
    by_cases hc : i.c = 0
    case neg =>
      have t_hc : ((i.c : Int) == 0) = false := by simp; omega
      have HV : Hid (i.may = false) := by show _ = _; rw [HE.out]; unfold mayN; simp [hc, ha, hb]
      clear hc ha hb HE
      rw [HV.out]
      clear HV
      go_enter Tryz.func30, Tryz.ntmps30
      go_wp2_with fail
      go_ret
      exact ⟨rfl, alloc_below _ _⟩
    have t_hc : ((i.c : Int) == 0) = true := by simp; omega
    have HV : Hid (i.may = true) := by show _ = _; rw [HE.out]; unfold mayN; simp [ha, hb, hc]
    clear ha hb hc HE
    rw [HV.out]
    clear HV
    go_enter Tryz.func30, Tryz.ntmps30
    go_wp2_with fail
    go_ret
    exact ⟨rfl, alloc_below _ _⟩
  by_cases o25 : i.op = 25
  case pos =>
    have E : i.may = mayN 3 i.a i.b i.c := may_of (by rw [o25]; decide) (by rw [o25]; rfl)
    have HE := Lib.hid E
    clear E
    have q1 : ((i.op : Int) == 1) = false := by simp; omega
    have q19 : ((i.op : Int) == 19) = false := by simp; omega
    have q20 : ((i.op : Int) == 20) = false := by simp; omega
    have q17 : ((i.op : Int) == 17) = false := by simp; omega
    have q18 : ((i.op : Int) == 18) = false := by simp; omega
    have q23 : ((i.op : Int) == 23) = false := by simp; omega
    have q25 : ((i.op : Int) == 25) = true := by simp; omega
    have q21 : ((i.op : Int) == 21) = false := by simp; omega
    have q22 : ((i.op : Int) == 22) = false := by simp; omega
    have q24 : ((i.op : Int) == 24) = false := by simp; omega
    have q26 : ((i.op : Int) == 26) = false := by simp; omega
    clear o25 o1 o19 o20 o17 o18 o23
    by_cases ha : i.a < 16
    case neg =>
      have t_ha : decide ((i.a : Int) < 16) = false := by simp; omega
      have HV : Hid (i.may = false) := by show _ = _; rw [HE.out]; unfold mayN; simp [ha]
      clear ha HE
      rw [HV.out]
      clear HV
      go_enter Tryz.func30, Tryz.ntmps30
      go_wp2_with fail
      go_ret
      exact ⟨rfl, alloc_below _ _⟩
    have t_ha : decide ((i.a : Int) < 16) = true := by simp; omega
    by_cases hb : i.b < 16
    case neg =>
      have t_hb : decide ((i.b : Int) < 16) = false := by simp; omega
      have HV : Hid (i.may = false) := by show _ = _; rw [HE.out]; unfold mayN; simp [hb, ha]
      clear hb ha HE
      rw [HV.out]
      clear HV
      go_enter Tryz.func30, Tryz.ntmps30
      go_wp2_with fail
      go_ret
      exact ⟨rfl, alloc_below _ _⟩
    have t_hb : decide ((i.b : Int) < 16) = true := by simp; omega
    by_cases hc : i.c = 0
    case neg =>
      have t_hc : ((i.c : Int) == 0) = false := by simp; omega
      have HV : Hid (i.may = false) := by show _ = _; rw [HE.out]; unfold mayN; simp [hc, ha, hb]
      clear hc ha hb HE
      rw [HV.out]
      clear HV
      go_enter Tryz.func30, Tryz.ntmps30
      go_wp2_with fail
      go_ret
      exact ⟨rfl, alloc_below _ _⟩
    have t_hc : ((i.c : Int) == 0) = true := by simp; omega
    have HV : Hid (i.may = true) := by show _ = _; rw [HE.out]; unfold mayN; simp [ha, hb, hc]
    clear ha hb hc HE
    rw [HV.out]
    clear HV
    go_enter Tryz.func30, Tryz.ntmps30
    go_wp2_with fail
    go_ret
    exact ⟨rfl, alloc_below _ _⟩
  by_cases o21 : i.op = 21
  case pos =>
    have E : i.may = mayN 1 i.a i.b i.c := may_of (by rw [o21]; decide) (by rw [o21]; rfl)
    have HE := Lib.hid E
    clear E
    have q1 : ((i.op : Int) == 1) = false := by simp; omega
    have q19 : ((i.op : Int) == 19) = false := by simp; omega
    have q20 : ((i.op : Int) == 20) = false := by simp; omega
    have q17 : ((i.op : Int) == 17) = false := by simp; omega
    have q18 : ((i.op : Int) == 18) = false := by simp; omega
    have q23 : ((i.op : Int) == 23) = false := by simp; omega
    have q25 : ((i.op : Int) == 25) = false := by simp; omega
    have q21 : ((i.op : Int) == 21) = true := by simp; omega
    have q22 : ((i.op : Int) == 22) = false := by simp; omega
    have q24 : ((i.op : Int) == 24) = false := by simp; omega
    have q26 : ((i.op : Int) == 26) = false := by simp; omega
    clear o21 o1 o19 o20 o17 o18 o23 o25
    by_cases ha : i.a < 16
    case neg =>
      have t_ha : decide ((i.a : Int) < 16) = false := by simp; omega
      have HV : Hid (i.may = false) := by show _ = _; rw [HE.out]; unfold mayN; simp [ha]
      clear ha HE
      rw [HV.out]
      clear HV
      go_enter Tryz.func30, Tryz.ntmps30
      go_wp2_with fail
      go_ret
      exact ⟨rfl, alloc_below _ _⟩
    have t_ha : decide ((i.a : Int) < 16) = true := by simp; omega
    by_cases hb : i.b = 0
    case neg =>
      have t_hb : ((i.b : Int) == 0) = false := by simp; omega
      have HV : Hid (i.may = false) := by show _ = _; rw [HE.out]; unfold mayN; simp [hb, ha]
      clear hb ha HE
      rw [HV.out]
      clear HV
      go_enter Tryz.func30, Tryz.ntmps30
      go_wp2_with fail
      go_ret
      exact ⟨rfl, alloc_below _ _⟩
    have t_hb : ((i.b : Int) == 0) = true := by simp; omega
    by_cases hc : i.c = 0
    case neg =>
      have t_hc : ((i.c : Int) == 0) = false := by simp; omega
      have HV : Hid (i.may = false) := by show _ = _; rw [HE.out]; unfold mayN; simp [hc, ha, hb]
      clear hc ha hb HE
      rw [HV.out]
      clear HV
      go_enter Tryz.func30, Tryz.ntmps30
      go_wp2_with fail
      go_ret
      exact ⟨rfl, alloc_below _ _⟩
    have t_hc : ((i.c : Int) == 0) = true := by simp; omega
    have HV : Hid (i.may = true) := by show _ = _; rw [HE.out]; unfold mayN; simp [ha, hb, hc]
    clear ha hb hc HE
    rw [HV.out]
    clear HV
    go_enter Tryz.func30, Tryz.ntmps30
    go_wp2_with fail
    go_ret
    exact ⟨rfl, alloc_below _ _⟩
  by_cases o22 : i.op = 22
  case pos =>
    have E : i.may = mayN 1 i.a i.b i.c := may_of (by rw [o22]; decide) (by rw [o22]; rfl)
    have HE := Lib.hid E
    clear E
    have q1 : ((i.op : Int) == 1) = false := by simp; omega
    have q19 : ((i.op : Int) == 19) = false := by simp; omega
    have q20 : ((i.op : Int) == 20) = false := by simp; omega
    have q17 : ((i.op : Int) == 17) = false := by simp; omega
    have q18 : ((i.op : Int) == 18) = false := by simp; omega
    have q23 : ((i.op : Int) == 23) = false := by simp; omega
    have q25 : ((i.op : Int) == 25) = false := by simp; omega
    have q21 : ((i.op : Int) == 21) = false := by simp; omega
    have q22 : ((i.op : Int) == 22) = true := by simp; omega
    have q24 : ((i.op : Int) == 24) = false := by simp; omega
    have q26 : ((i.op : Int) == 26) = false := by simp; omega
    clear o22 o1 o19 o20 o17 o18 o23 o25 o21
    by_cases ha : i.a < 16
    case neg =>
      have t_ha : decide ((i.a : Int) < 16) = false := by simp; omega
      have HV : Hid (i.may = false) := by show _ = _; rw [HE.out]; unfold mayN; simp [ha]
      clear ha HE
      rw [HV.out]
      clear HV
      go_enter Tryz.func30, Tryz.ntmps30
      go_wp2_with fail
      go_ret
      exact ⟨rfl, alloc_below _ _⟩
    have t_ha : decide ((i.a : Int) < 16) = true := by simp; omega
    by_cases hb : i.b = 0
    case neg =>
      have t_hb : ((i.b : Int) == 0) = false := by simp; omega
      have HV : Hid (i.may = false) := by show _ = _; rw [HE.out]; unfold mayN; simp [hb, ha]
      clear hb ha HE
      rw [HV.out]
      clear HV
      go_enter Tryz.func30, Tryz.ntmps30
      go_wp2_with fail
      go_ret
      exact ⟨rfl, alloc_below _ _⟩
    have t_hb : ((i.b : Int) == 0) = true := by simp; omega
    by_cases hc : i.c = 0
    case neg =>
      have t_hc : ((i.c : Int) == 0) = false := by simp; omega
      have HV : Hid (i.may = false) := by show _ = _; rw [HE.out]; unfold mayN; simp [hc, ha, hb]
      clear hc ha hb HE
      rw [HV.out]
      clear HV
      go_enter Tryz.func30, Tryz.ntmps30
      go_wp2_with fail
      go_ret
      exact ⟨rfl, alloc_below _ _⟩
    have t_hc : ((i.c : Int) == 0) = true := by simp; omega
    have HV : Hid (i.may = true) := by show _ = _; rw [HE.out]; unfold mayN; simp [ha, hb, hc]
    clear ha hb hc HE
    rw [HV.out]
    clear HV
    go_enter Tryz.func30, Tryz.ntmps30
    go_wp2_with fail
    go_ret
    exact ⟨rfl, alloc_below _ _⟩
  by_cases o24 : i.op = 24
  case pos =>
    have E : i.may = mayN 1 i.a i.b i.c := may_of (by rw [o24]; decide) (by rw [o24]; rfl)
    have HE := Lib.hid E
    clear E
    have q1 : ((i.op : Int) == 1) = false := by simp; omega
    have q19 : ((i.op : Int) == 19) = false := by simp; omega
    have q20 : ((i.op : Int) == 20) = false := by simp; omega
    have q17 : ((i.op : Int) == 17) = false := by simp; omega
    have q18 : ((i.op : Int) == 18) = false := by simp; omega
    have q23 : ((i.op : Int) == 23) = false := by simp; omega
    have q25 : ((i.op : Int) == 25) = false := by simp; omega
    have q21 : ((i.op : Int) == 21) = false := by simp; omega
    have q22 : ((i.op : Int) == 22) = false := by simp; omega
    have q24 : ((i.op : Int) == 24) = true := by simp; omega
    have q26 : ((i.op : Int) == 26) = false := by simp; omega
    clear o24 o1 o19 o20 o17 o18 o23 o25 o21 o22
    by_cases ha : i.a < 16
    case neg =>
      have t_ha : decide ((i.a : Int) < 16) = false := by simp; omega
      have HV : Hid (i.may = false) := by show _ = _; rw [HE.out]; unfold mayN; simp [ha]
      clear ha HE
      rw [HV.out]
      clear HV
      go_enter Tryz.func30, Tryz.ntmps30
      go_wp2_with fail
      go_ret
      exact ⟨rfl, alloc_below _ _⟩
    have t_ha : decide ((i.a : Int) < 16) = true := by simp; omega
    by_cases hb : i.b = 0
    case neg =>
      have t_hb : ((i.b : Int) == 0) = false := by simp; omega
      have HV : Hid (i.may = false) := by show _ = _; rw [HE.out]; unfold mayN; simp [hb, ha]
      clear hb ha HE
      rw [HV.out]
      clear HV
      go_enter Tryz.func30, Tryz.ntmps30
      go_wp2_with fail
      go_ret
      exact ⟨rfl, alloc_below _ _⟩
    have t_hb : ((i.b : Int) == 0) = true := by simp; omega
    by_cases hc : i.c = 0
    case neg =>
      have t_hc : ((i.c : Int) == 0) = false := by simp; omega
      have HV : Hid (i.may = false) := by show _ = _; rw [HE.out]; unfold mayN; simp [hc, ha, hb]
      clear hc ha hb HE
      rw [HV.out]
      clear HV
      go_enter Tryz.func30, Tryz.ntmps30
      go_wp2_with fail
      go_ret
      exact ⟨rfl, alloc_below _ _⟩
    have t_hc : ((i.c : Int) == 0) = true := by simp; omega
    have HV : Hid (i.may = true) := by show _ = _; rw [HE.out]; unfold mayN; simp [ha, hb, hc]
    clear ha hb hc HE
    rw [HV.out]
    clear HV
    go_enter Tryz.func30, Tryz.ntmps30
    go_wp2_with fail
    go_ret
    exact ⟨rfl, alloc_below _ _⟩
  by_cases o26 : i.op = 26
  case pos =>
    have E : i.may = mayN 1 i.a i.b i.c := may_of (by rw [o26]; decide) (by rw [o26]; rfl)
    have HE := Lib.hid E
    clear E
    have q1 : ((i.op : Int) == 1) = false := by simp; omega
    have q19 : ((i.op : Int) == 19) = false := by simp; omega
    have q20 : ((i.op : Int) == 20) = false := by simp; omega
    have q17 : ((i.op : Int) == 17) = false := by simp; omega
    have q18 : ((i.op : Int) == 18) = false := by simp; omega
    have q23 : ((i.op : Int) == 23) = false := by simp; omega
    have q25 : ((i.op : Int) == 25) = false := by simp; omega
    have q21 : ((i.op : Int) == 21) = false := by simp; omega
    have q22 : ((i.op : Int) == 22) = false := by simp; omega
    have q24 : ((i.op : Int) == 24) = false := by simp; omega
    have q26 : ((i.op : Int) == 26) = true := by simp; omega
    clear o26 o1 o19 o20 o17 o18 o23 o25 o21 o22 o24
    by_cases ha : i.a < 16
    case neg =>
      have t_ha : decide ((i.a : Int) < 16) = false := by simp; omega
      have HV : Hid (i.may = false) := by show _ = _; rw [HE.out]; unfold mayN; simp [ha]
      clear ha HE
      rw [HV.out]
      clear HV
      go_enter Tryz.func30, Tryz.ntmps30
      go_wp2_with fail
      go_ret
      exact ⟨rfl, alloc_below _ _⟩
    have t_ha : decide ((i.a : Int) < 16) = true := by simp; omega
    by_cases hb : i.b = 0
    case neg =>
      have t_hb : ((i.b : Int) == 0) = false := by simp; omega
      have HV : Hid (i.may = false) := by show _ = _; rw [HE.out]; unfold mayN; simp [hb, ha]
      clear hb ha HE
      rw [HV.out]
      clear HV
      go_enter Tryz.func30, Tryz.ntmps30
      go_wp2_with fail
      go_ret
      exact ⟨rfl, alloc_below _ _⟩
    have t_hb : ((i.b : Int) == 0) = true := by simp; omega
    by_cases hc : i.c = 0
    case neg =>
      have t_hc : ((i.c : Int) == 0) = false := by simp; omega
      have HV : Hid (i.may = false) := by show _ = _; rw [HE.out]; unfold mayN; simp [hc, ha, hb]
      clear hc ha hb HE
      rw [HV.out]
      clear HV
      go_enter Tryz.func30, Tryz.ntmps30
      go_wp2_with fail
      go_ret
      exact ⟨rfl, alloc_below _ _⟩
    have t_hc : ((i.c : Int) == 0) = true := by simp; omega
    have HV : Hid (i.may = true) := by show _ = _; rw [HE.out]; unfold mayN; simp [ha, hb, hc]
    clear ha hb hc HE
    rw [HV.out]
    clear HV
    go_enter Tryz.func30, Tryz.ntmps30
    go_wp2_with fail
    go_ret
    exact ⟨rfl, alloc_below _ _⟩
  have q1 : ((i.op : Int) == 1) = false := by simp; omega
  have q19 : ((i.op : Int) == 19) = false := by simp; omega
  have q20 : ((i.op : Int) == 20) = false := by simp; omega
  have q17 : ((i.op : Int) == 17) = false := by simp; omega
  have q18 : ((i.op : Int) == 18) = false := by simp; omega
  have q23 : ((i.op : Int) == 23) = false := by simp; omega
  have q25 : ((i.op : Int) == 25) = false := by simp; omega
  have q21 : ((i.op : Int) == 21) = false := by simp; omega
  have q22 : ((i.op : Int) == 22) = false := by simp; omega
  have q24 : ((i.op : Int) == 24) = false := by simp; omega
  have q26 : ((i.op : Int) == 26) = false := by simp; omega
  by_cases z : i.op = 0
  case pos =>
    have q0 : decide ((1 : Int) ≤ (i.op : Int)) = false := by simp; omega
    have HV : Hid (i.may = false) := may_no (by rw [z]; rfl)
    clear z o1 o19 o20 o17 o18 o23 o25 o21 o22 o24 o26
    rw [HV.out]
    clear HV
    go_enter Tryz.func30, Tryz.ntmps30
    go_wp2_with fail
    go_ret
    exact ⟨rfl, alloc_below _ _⟩
  have q0 : decide ((1 : Int) ≤ (i.op : Int)) = true := by simp; omega
  by_cases z2 : i.op < 28
  case neg =>
    have q28 : decide ((i.op : Int) ≤ 27) = false := by simp; omega
    have HV : Hid (i.may = false) := may_no (rowAt_none (by omega))
    clear z z2 o1 o19 o20 o17 o18 o23 o25 o21 o22 o24 o26
    rw [HV.out]
    clear HV
    go_enter Tryz.func30, Tryz.ntmps30
    go_wp2_with fail
    go_ret
    exact ⟨rfl, alloc_below _ _⟩
  have q28 : decide ((i.op : Int) ≤ 27) = true := by simp; omega
  have R := row_rest i.op z2 z o1 o19 o20 o17 o18 o23 o25 o21 o22 o24 o26
  have E : i.may = mayN 0 i.a i.b i.c := may_of R.1 R.2
  have HE := Lib.hid E
  clear E R z z2 o1 o19 o20 o17 o18 o23 o25 o21 o22 o24 o26
  by_cases ha : i.a = 0
  case neg =>
    have t_ha : ((i.a : Int) == 0) = false := by simp; omega
    have HV : Hid (i.may = false) := by show _ = _; rw [HE.out]; unfold mayN; simp [ha]
    clear ha HE
    rw [HV.out]
    clear HV
    go_enter Tryz.func30, Tryz.ntmps30
    go_wp2_with fail
    go_ret
    exact ⟨rfl, alloc_below _ _⟩
  have t_ha : ((i.a : Int) == 0) = true := by simp; omega
  by_cases hb : i.b = 0
  case neg =>
    have t_hb : ((i.b : Int) == 0) = false := by simp; omega
    have HV : Hid (i.may = false) := by show _ = _; rw [HE.out]; unfold mayN; simp [hb, ha]
    clear hb ha HE
    rw [HV.out]
    clear HV
    go_enter Tryz.func30, Tryz.ntmps30
    go_wp2_with fail
    go_ret
    exact ⟨rfl, alloc_below _ _⟩
  have t_hb : ((i.b : Int) == 0) = true := by simp; omega
  by_cases hc : i.c = 0
  case neg =>
    have t_hc : ((i.c : Int) == 0) = false := by simp; omega
    have HV : Hid (i.may = false) := by show _ = _; rw [HE.out]; unfold mayN; simp [hc, ha, hb]
    clear hc ha hb HE
    rw [HV.out]
    clear HV
    go_enter Tryz.func30, Tryz.ntmps30
    go_wp2_with fail
    go_ret
    exact ⟨rfl, alloc_below _ _⟩
  have t_hc : ((i.c : Int) == 0) = true := by simp; omega
  have HV : Hid (i.may = true) := by show _ = _; rw [HE.out]; unfold mayN; simp [ha, hb, hc]
  clear ha hb hc HE
  rw [HV.out]
  clear HV
  go_enter Tryz.func30, Tryz.ntmps30
  go_wp2_with fail
  go_ret
  exact ⟨rfl, alloc_below _ _⟩
end Go.Proofs.YtalmgjeiopjhlaaGreatDoor
