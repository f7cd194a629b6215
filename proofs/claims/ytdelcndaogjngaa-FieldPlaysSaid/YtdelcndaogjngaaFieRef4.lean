/- The document's Out, that is refused. -/
import Derived.Test.YtdelcndaogjngaaFieRef3
namespace Go.Proofs.Ytdelcndaogjngaa
open Go.RowKit
set_option linter.unusedVariables false
def oE (R : RS) (p n : Int) : Int := if p ≠ R.wt then 70 else if n < 0 ∨ (R.nS : Int) ≤ n then 5 else 0
set_option maxHeartbeats 2000000 in
theorem ref_outbad (R : RS) (p n x : Int) (w : World) (h : RefAt w R) (E : Int) (hE : oE R p n = E) (h0 : E ≠ 0) :
    Calls Try.prog 16 #[.pointer (some ⟨R.r, 0, none⟩), .int .i64 p, .int .i64 n, .int .u32 x] w fun e w' => e = .returned (.int .i64 E) ∧ w = w' := by
  have c1 : w.cell? ⟨R.r, 1, none⟩ = some (.slice R.sa R.nS R.cap) := h.cell 1 _ rfl
  have c3 : w.cell? ⟨R.r, 3, none⟩ = some (.int .i64 R.wt) := h.cell 3 _ rfl
  have hl := h.hi.1
  have hS := h.nS
  clear h
  by_cases hp : p = R.wt
  case neg =>
    have hr : E = 70 := by rw [← hE]; unfold oE; rw [if_pos hp]
    have t1 : (p == R.wt) = false := by simpa using hp
    have t2 : (p != R.wt) = true := by simpa using hp
    subst hr
    clear hE h0 hp
    go_enter Try.func16, Try.ntmps16
    go_wp2_with fail
    go_ret
    exact ⟨rfl, rfl⟩
  have t1 : (p == R.wt) = true := by simpa using hp
  have t2 : (p != R.wt) = false := by simpa using hp
  cases t3 : decide (n < 0)
  case true =>
    have hr : E = 5 := by rw [← hE]; unfold oE; rw [if_neg (fun h => h hp), if_pos (.inl (of_decide_eq_true t3))]
    subst hr
    clear hE h0 hp
    go_enter Try.func16, Try.ntmps16
    go_wp2_with fail
    go_ret
    exact ⟨rfl, rfl⟩
  cases t4 : decide ((R.nS : Int) ≤ n)
  case true =>
    have hr : E = 5 := by rw [← hE]; unfold oE; rw [if_neg (fun h => h hp), if_pos (.inr (of_decide_eq_true t4))]
    subst hr
    clear hE h0 hp
    go_enter Try.func16, Try.ntmps16
    go_wp2_with fail
    go_ret
    exact ⟨rfl, rfl⟩
  exfalso
  have hn1 := of_decide_eq_false t3
  have hn2 := of_decide_eq_false t4
  refine h0 ?_
  rw [← hE]; unfold oE; rw [if_neg (fun h => h hp), if_neg (by omega)]
end Go.Proofs.Ytdelcndaogjngaa
