/- The document's In. -/
import Derived.Test.YtdelcndaogjngaaFieRef
namespace Go.Proofs.Ytdelcndaogjngaa
open Go.RowKit
set_option linter.unusedVariables false
def rE (R : RS) (p n : Int) : Int := if p < 0 ∨ 8 ≤ p ∨ bitN R.rd p.toNat = 0 then 70 else if n < 0 ∨ (R.nI : Int) ≤ n then 5 else 0
def rX (R : RS) (p n : Int) : Nat := if rE R p n = 0 then R.ins n.toNat else 0
set_option maxHeartbeats 2000000 in
theorem ref_in (R : RS) (p n : Int) (w : World) (h : RefAt w R) (hn : in64 n) :
    Calls Try.prog 14 #[.pointer (some ⟨R.r, 0, none⟩), .int .i64 p, .int .i64 n] w fun e w' => e = .returned (.tuple #[.int .u32 ((rX R p n : Nat) : Int), .int .i64 (rE R p n)]) ∧ w = w' := by
  have c0 : w.cell? ⟨R.r, 0, none⟩ = some (.int .i64 (R.nI : Int)) := h.cell 0 _ rfl
  have c2 : w.cell? ⟨R.r, 2, none⟩ = some (.int .u32 (R.rd : Int)) := h.cell 2 _ rfl
  have c4 : w.cell? ⟨R.r, 4, none⟩ = some R.vi := h.cell 4 _ rfl
  have hrd := h.rd
  have hl := heap_lt h.obj
  obtain ⟨a, c, hv, h1, h2, h3⟩ := h.ins.slice
  rw [hv] at c4
  have HS := Lib.hid h3
  clear h3 hv h
  cases t1 : decide (p < 0)
  case true =>
    have hr : rE R p n = 70 := by unfold rE; rw [if_pos (.inl (of_decide_eq_true t1))]
    have hx : rX R p n = 0 := by unfold rX; rw [hr]; rfl
    rw [hr, hx]
    clear hr hx
    go_enter Try.func14, Try.ntmps14
    go_wp2_with fail
    go_ret2
    exact ⟨rfl, rfl⟩
  cases t2 : decide (7 < p)
  case true =>
    have hr : rE R p n = 70 := by unfold rE; rw [if_pos (.inr (.inl (by have := of_decide_eq_true t2; omega)))]
    have hx : rX R p n = 0 := by unfold rX; rw [hr]; rfl
    rw [hr, hx]
    clear hr hx
    go_enter Try.func14, Try.ntmps14
    go_wp2_with fail
    go_ret2
    exact ⟨rfl, rfl⟩
  have hp1 := of_decide_eq_false t1
  have hp2 := of_decide_eq_false t2
  obtain ⟨q, rfl⟩ := Int.eq_ofNat_of_zero_le (show 0 ≤ p by omega)
  have hq : q < 8 := by omega
  clear hp1 hp2
  have hb2 : bitN R.rd q < 2 := Nat.mod_lt _ (by omega)
  by_cases hb : bitN R.rd q = 1
  case neg =>
    have hr : rE R (q : Int) n = 70 := by unfold rE; rw [if_pos (.inr (.inr (by rw [Int.toNat_natCast]; omega)))]
    have hx : rX R (q : Int) n = 0 := by unfold rX; rw [hr]; rfl
    have HB : Hid (decide (bitN R.rd q = 1) = false) := by show _ = _; simpa using hb
    rw [hr, hx]
    clear hr hx hb hb2
    go_enter Try.func14, Try.ntmps14
    go_wp2_with fail
    refine (bit_any R.rd q (by omega) (by omega) w).mono ?_
    rintro e w' ⟨rfl, rfl⟩
    rw [HB.out]
    go_wp2_with fail
    go_ret2
    exact ⟨rfl, rfl⟩
  have HB : Hid (decide (bitN R.rd q = 1) = true) := by show _ = _; simpa using hb
  have HN : Hid (¬ ((q : Int) < 0 ∨ 8 ≤ (q : Int) ∨ bitN R.rd (q : Int).toNat = 0)) := by show ¬ _; rw [Int.toNat_natCast]; omega
  clear hb hb2
  cases t3 : decide (n < 0)
  case true =>
    have hr : rE R (q : Int) n = 5 := by unfold rE; rw [if_neg HN.out, if_pos (.inl (of_decide_eq_true t3))]
    have hx : rX R (q : Int) n = 0 := by unfold rX; rw [hr]; rfl
    rw [hr, hx]
    clear hr hx
    go_enter Try.func14, Try.ntmps14
    go_wp2_with fail
    refine (bit_any R.rd q (by omega) (by omega) w).mono ?_
    rintro e w' ⟨rfl, rfl⟩
    rw [HB.out]
    go_wp2_with fail
    go_ret2
    exact ⟨rfl, rfl⟩
  cases t4 : decide ((R.nI : Int) ≤ n)
  case true =>
    have hr : rE R (q : Int) n = 5 := by unfold rE; rw [if_neg HN.out, if_pos (.inr (of_decide_eq_true t4))]
    have hx : rX R (q : Int) n = 0 := by unfold rX; rw [hr]; rfl
    rw [hr, hx]
    clear hr hx
    go_enter Try.func14, Try.ntmps14
    go_wp2_with fail
    refine (bit_any R.rd q (by omega) (by omega) w).mono ?_
    rintro e w' ⟨rfl, rfl⟩
    rw [HB.out]
    go_wp2_with fail
    go_ret2
    exact ⟨rfl, rfl⟩
  have hn1 := of_decide_eq_false t3
  have hn2 := of_decide_eq_false t4
  obtain ⟨m, rfl⟩ := Int.eq_ofNat_of_zero_le (show 0 ≤ n by omega)
  have hr : rE R (q : Int) (m : Int) = 0 := by unfold rE; rw [if_neg HN.out, if_neg (by omega)]
  have hx : rX R (q : Int) (m : Int) = R.ins m := by unfold rX; rw [if_pos hr, Int.toNat_natCast]
  rw [hr, hx]
  have hm : m < R.nI := by omega
  obtain ⟨b, off, rfl, hlt, hc⟩ := HS.out.at (by omega)
  have cx : w.cell? ⟨b, off + m, none⟩ = some (.int .u32 ((R.ins m : Nat) : Int)) := hc m hm
  have hmi : (m : Int) < (R.nI : Int) := by omega
  clear hr hx hn1 hn2 hc HN
  generalize R.ins m = xv at *
  go_enter Try.func14, Try.ntmps14
  go_wp2_with fail
  refine (bit_any R.rd q (by omega) (by omega) w).mono ?_
  rintro e w' ⟨rfl, rfl⟩
  rw [HB.out]
  go_wp2_with fail
  go_ret2
  exact ⟨rfl, rfl⟩
end Go.Proofs.Ytdelcndaogjngaa
