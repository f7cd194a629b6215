/- The document's words on logs: Bytes, May, number, word. -/
import Derived.Test.YtdlpgoackmgdkaaGreatDoorDiA
import Derived.Test.YtdlpgoackmgdkaaGreatDoorMaAC
namespace Go.Proofs.YtdlpgoackmgdkaaGreatDoor
open Go.RowKit Go.Shelf
set_option linter.unusedVariables false
set_option linter.unusedSimpArgs false
set_option maxRecDepth 100000 in
theorem rbytes_any (ia : Option Addr) (m ic base : Nat) (size port : Int) (w : World) (hm : m ≤ 16) (h1 : 0 ≤ size) (h2 : size ≤ 1000) :
    Calls Tryz.prog 29 #[.agg #[.slice ia m ic, .int .u32 (base : Int), .int .i64 size, .int .i64 port]] w fun e w' => e = .returned (.int .i64 ((bytesN m size : Nat) : Int)) ∧ Below w.heap.size w w' := by
  obtain ⟨w1, hw1⟩ : ∃ x, x = w.alloc (.cells #[.slice ia m ic, .int .u32 (base : Int), .int .i64 size, .int .i64 port] 57) := ⟨_, rfl⟩
  have B1 : Hid (Below w.heap.size w w1) := by rw [hw1]; exact alloc_below _ _
  have K1 : Hid (w1.heap[w.heap.size]? = some (.cells #[.slice ia m ic, .int .u32 (base : Int), .int .i64 size, .int .i64 port] 57 (0, 0))) := by rw [hw1]; exact heap_alloc_new _ _
  have HW1 := Lib.hid hw1
  obtain ⟨g, hg⟩ : ∃ g, g = w.heap.size := ⟨_, rfl⟩
  rw [← hg] at K1
  have HG := Lib.hid hg
  have HR : Hid (((bytesN m size : Nat) : Int) = 4 + 4 * (m : Int) + 8 * size) := by show _ = _; unfold bytesN; omega
  obtain ⟨R, hR⟩ : ∃ R : Int, R = ((bytesN m size : Nat) : Int) := ⟨_, rfl⟩
  rw [← hR] at HR ⊢
  clear hw1 hg hR
  have p0 : w1.cell? ⟨g, 0, none⟩ = some (.slice ia m ic) := cell_row (j := 0) K1.out rfl
  have p1 : w1.cell? ⟨g, 1, none⟩ = some (.int .u32 (base : Int)) := cell_row (j := 1) K1.out rfl
  have p2 : w1.cell? ⟨g, 2, none⟩ = some (.int .i64 size) := cell_row (j := 2) K1.out rfl
  have p3 : w1.cell? ⟨g, 3, none⟩ = some (.int .i64 port) := cell_row (j := 3) K1.out rfl
  go_enter Tryz.func29, Tryz.ntmps29
  go_upto_region 1 with fail
  rw [← HW1.out, ← HG.out]
  clear HW1
  go_wp2_with fail
  go_ret
  exact ⟨by rw [HR.out]; rfl, B1.out⟩
theorem belowN {B : Nat} {w w' : World} (h : Below B w w') (n : Nat) : Below B w (w'.drewN n) := ⟨h.os, h.tape, h.output, h.size, h.block⟩
set_option maxRecDepth 100000 in
set_option maxHeartbeats 16000000 in
theorem rmay29_any (l : List Int) (ia : Option Addr) (ic base : Nat) (size port : Int) (w : World) (hA : IlAt w ia l) (hm : l.length ≤ 9223372036854775807) (hb0 : base < 4294967296) :
    Calls Tryz.prog 27 #[.agg #[.slice ia l.length ic, .int .u32 (base : Int), .int .i64 size, .int .i64 port]] w fun e w' => e = .returned (.bool (mayD l base size port)) ∧ Below w.heap.size w w' := by
  have HA := Lib.hid hA
  have HH := Lib.hid (fun h => mayD_head (l := l) (base := base) (size := size) (port := port) h)
  have HBAD := Lib.hid (fun k hk => mayD_bad (l := l) (base := base) (size := size) (port := port) (k := k) hk)
  have HRE := Lib.hid (fun h1 h => mayD_rest (l := l) (base := base) (size := size) (port := port) h1 h)
  obtain ⟨may, hmay⟩ : ∃ b, b = mayD l base size port := ⟨_, rfl⟩
  rw [← hmay] at HH HBAD HRE ⊢
  obtain ⟨res, hres⟩ : ∃ b, b = may := ⟨_, rfl⟩
  rw [← hres]
  have HR := Lib.hid hres
  obtain ⟨m, hn⟩ : ∃ n, n = l.length := ⟨_, rfl⟩
  rw [← hn] at hm HH HRE ⊢
  have HN := Lib.hid hn
  obtain ⟨w1, hw1⟩ : ∃ x, x = w.alloc (.cells #[.slice ia m ic, .int .u32 (base : Int), .int .i64 size, .int .i64 port] 57) := ⟨_, rfl⟩
  have B1 : Hid (Below w.heap.size w w1) := by rw [hw1]; exact alloc_below _ _
  have K1 : Hid (w1.heap[w.heap.size]? = some (.cells #[.slice ia m ic, .int .u32 (base : Int), .int .i64 size, .int .i64 port] 57 (0, 0))) := by rw [hw1]; exact heap_alloc_new _ _
  have HW1 := Lib.hid hw1
  obtain ⟨g, hg⟩ : ∃ g, g = w.heap.size := ⟨_, rfl⟩
  rw [← hg] at K1
  have HG := Lib.hid hg
  clear hA hn hw1 hg hmay hres
  have p0 : w1.cell? ⟨g, 0, none⟩ = some (.slice ia m ic) := cell_row (j := 0) K1.out rfl
  have p1 : w1.cell? ⟨g, 1, none⟩ = some (.int .u32 (base : Int)) := cell_row (j := 1) K1.out rfl
  have p2 : w1.cell? ⟨g, 2, none⟩ = some (.int .i64 size) := cell_row (j := 2) K1.out rfl
  have p3 : w1.cell? ⟨g, 3, none⟩ = some (.int .i64 port) := cell_row (j := 3) K1.out rfl
  have HHD : Hid (headOk m size port = (decide (1 ≤ m) && decide (m ≤ 16) && decide (1 ≤ size) && decide (size ≤ 1000) && decide (-1 ≤ port) && decide (port ≤ 15))) := rfl
  go_enter Tryz.func27, Tryz.ntmps27
  go_upto_region 1 with fail
  rw [← HW1.out, ← HG.out]
  clear HW1
  by_cases h1 : 1 ≤ m
  case neg =>
    have t1 : decide (1 ≤ (m : Int)) = false := decide_eq_false (by omega)
    have HX : Hid (may = false) := HH.out (by rw [HHD.out, decide_eq_false h1]; rfl)
    -- what may not be at its head
    go_wp2_with fail
    clear p0 p1 p2 p3
    go_loopw [3, 4] (fun ok i wr => ok = .bool false ∧ i = .int .i64 0 ∧ wr = w1) (fun _ _ _ => 0)
    case atStart => exact ⟨rfl, rfl, rfl⟩
    case round =>
      obtain ⟨rfl, rfl, rfl⟩ := hrel
      have p0 : wr.cell? ⟨g, 0, none⟩ = some (.slice ia m ic) := cell_row (j := 0) K1.out rfl
      have p1 : wr.cell? ⟨g, 1, none⟩ = some (.int .u32 (base : Int)) := cell_row (j := 1) K1.out rfl
      have u1 : decide ((0 : Int) < (m : Int)) = false := by simp; omega
      go_wp2_with fail
      go_quiet (fail)
      go_wp2_with fail
      go_ret
      exact ⟨by rw [HR.out, HX.out]; rfl, belowN B1.out _⟩
  have t1 : decide (1 ≤ (m : Int)) = true := decide_eq_true (by omega)
  by_cases h2 : m ≤ 16
  case neg =>
    have t2 : decide ((m : Int) ≤ 16) = false := decide_eq_false (by omega)
    have HX : Hid (may = false) := HH.out (by rw [HHD.out, decide_eq_false h2, Bool.and_false]; rfl)
    -- what may not be at its head
    go_wp2_with fail
    clear p0 p1 p2 p3
    go_loopw [3, 4] (fun ok i wr => ok = .bool false ∧ i = .int .i64 0 ∧ wr = w1) (fun _ _ _ => 0)
    case atStart => exact ⟨rfl, rfl, rfl⟩
    case round =>
      obtain ⟨rfl, rfl, rfl⟩ := hrel
      have p0 : wr.cell? ⟨g, 0, none⟩ = some (.slice ia m ic) := cell_row (j := 0) K1.out rfl
      have p1 : wr.cell? ⟨g, 1, none⟩ = some (.int .u32 (base : Int)) := cell_row (j := 1) K1.out rfl
      have u1 : decide ((0 : Int) < (m : Int)) = true := by simp; omega
      go_wp2_with fail
      go_quiet (fail)
      go_wp2_with fail
      go_ret
      exact ⟨by rw [HR.out, HX.out]; rfl, belowN B1.out _⟩
  have t2 : decide ((m : Int) ≤ 16) = true := decide_eq_true (by omega)
  by_cases h3 : 1 ≤ size
  case neg =>
    have t3 : decide (1 ≤ size) = false := decide_eq_false (by omega)
    have HX : Hid (may = false) := HH.out (by rw [HHD.out, decide_eq_false h3, Bool.and_false]; rfl)
    -- what may not be at its head
    go_wp2_with fail
    clear p0 p1 p2 p3
    go_loopw [3, 4] (fun ok i wr => ok = .bool false ∧ i = .int .i64 0 ∧ wr = w1) (fun _ _ _ => 0)
    case atStart => exact ⟨rfl, rfl, rfl⟩
    case round =>
      obtain ⟨rfl, rfl, rfl⟩ := hrel
      have p0 : wr.cell? ⟨g, 0, none⟩ = some (.slice ia m ic) := cell_row (j := 0) K1.out rfl
      have p1 : wr.cell? ⟨g, 1, none⟩ = some (.int .u32 (base : Int)) := cell_row (j := 1) K1.out rfl
      have u1 : decide ((0 : Int) < (m : Int)) = true := by simp; omega
      go_wp2_with fail
      go_quiet (fail)
      go_wp2_with fail
      go_ret
      exact ⟨by rw [HR.out, HX.out]; rfl, belowN B1.out _⟩
  have t3 : decide (1 ≤ size) = true := decide_eq_true (by omega)
  by_cases h4 : size ≤ 1000
  case neg =>
    have t4 : decide (size ≤ 1000) = false := decide_eq_false (by omega)
    have HX : Hid (may = false) := HH.out (by rw [HHD.out, decide_eq_false h4, Bool.and_false]; rfl)
    -- what may not be at its head
    go_wp2_with fail
    clear p0 p1 p2 p3
    go_loopw [3, 4] (fun ok i wr => ok = .bool false ∧ i = .int .i64 0 ∧ wr = w1) (fun _ _ _ => 0)
    case atStart => exact ⟨rfl, rfl, rfl⟩
    case round =>
      obtain ⟨rfl, rfl, rfl⟩ := hrel
      have p0 : wr.cell? ⟨g, 0, none⟩ = some (.slice ia m ic) := cell_row (j := 0) K1.out rfl
      have p1 : wr.cell? ⟨g, 1, none⟩ = some (.int .u32 (base : Int)) := cell_row (j := 1) K1.out rfl
      have u1 : decide ((0 : Int) < (m : Int)) = true := by simp; omega
      go_wp2_with fail
      go_quiet (fail)
      go_wp2_with fail
      go_ret
      exact ⟨by rw [HR.out, HX.out]; rfl, belowN B1.out _⟩
  have t4 : decide (size ≤ 1000) = true := decide_eq_true (by omega)
  by_cases h5 : -1 ≤ port
  case neg =>
    have t5 : decide (-1 ≤ port) = false := decide_eq_false (by omega)
    have HX : Hid (may = false) := HH.out (by rw [HHD.out, decide_eq_false h5, Bool.and_false]; rfl)
    -- what may not be at its head
    go_wp2_with fail
    clear p0 p1 p2 p3
    go_loopw [3, 4] (fun ok i wr => ok = .bool false ∧ i = .int .i64 0 ∧ wr = w1) (fun _ _ _ => 0)
    case atStart => exact ⟨rfl, rfl, rfl⟩
    case round =>
      obtain ⟨rfl, rfl, rfl⟩ := hrel
      have p0 : wr.cell? ⟨g, 0, none⟩ = some (.slice ia m ic) := cell_row (j := 0) K1.out rfl
      have p1 : wr.cell? ⟨g, 1, none⟩ = some (.int .u32 (base : Int)) := cell_row (j := 1) K1.out rfl
      have u1 : decide ((0 : Int) < (m : Int)) = true := by simp; omega
      go_wp2_with fail
      go_quiet (fail)
      go_wp2_with fail
      go_ret
      exact ⟨by rw [HR.out, HX.out]; rfl, belowN B1.out _⟩
  have t5 : decide (-1 ≤ port) = true := decide_eq_true (by omega)
  by_cases h6 : port ≤ 15
  case neg =>
    have t6 : decide (port ≤ 15) = false := decide_eq_false (by omega)
    have HX : Hid (may = false) := HH.out (by rw [HHD.out, decide_eq_false h6, Bool.and_false])
    -- what may not be at its head
    go_wp2_with fail
    clear p0 p1 p2 p3
    go_loopw [3, 4] (fun ok i wr => ok = .bool false ∧ i = .int .i64 0 ∧ wr = w1) (fun _ _ _ => 0)
    case atStart => exact ⟨rfl, rfl, rfl⟩
    case round =>
      obtain ⟨rfl, rfl, rfl⟩ := hrel
      have p0 : wr.cell? ⟨g, 0, none⟩ = some (.slice ia m ic) := cell_row (j := 0) K1.out rfl
      have p1 : wr.cell? ⟨g, 1, none⟩ = some (.int .u32 (base : Int)) := cell_row (j := 1) K1.out rfl
      have u1 : decide ((0 : Int) < (m : Int)) = true := by simp; omega
      go_wp2_with fail
      go_quiet (fail)
      go_wp2_with fail
      go_ret
      exact ⟨by rw [HR.out, HX.out]; rfl, belowN B1.out _⟩
  have t6 : decide (port ≤ 15) = true := decide_eq_true (by omega)
  have HRE2 := Lib.hid (HRE.out (by rw [HHD.out, decide_eq_true h1, decide_eq_true h2, decide_eq_true h3, decide_eq_true h4, decide_eq_true h5, decide_eq_true h6]; rfl))
  clear HRE HH HHD
  go_wp2_with fail
  clear p0 p1 p2 p3 t1 t2 t3 t4 t5 t6
  go_loopw [3, 4] (fun ok i wr => ∃ k : Nat, k ≤ m ∧ i = .int .i64 (k : Int) ∧ ((ok = .bool true ∧ Hid (∀ j, j < k → inOk l j = true)) ∨ (ok = .bool false ∧ Hid (may = false))) ∧ Hid (Below w1.heap.size w1 wr)) (fun _ i _ => m - (intOf i).toNat)
  case atStart => exact ⟨0, Nat.zero_le _, rfl, .inl ⟨rfl, fun j hj => absurd hj (by omega)⟩, Below.refl _ _⟩
  case round =>
    obtain ⟨k, hk, rfl, hok, BB⟩ := hrel
    have K2 := Lib.hid (kept K1.out BB.out)
    have B2 : Hid (Below w.heap.size w wr) := B1.out.trans (BB.out.mono B1.out.size)
    have p0 : wr.cell? ⟨g, 0, none⟩ = some (.slice ia m ic) := cell_row (j := 0) K2.out rfl
    have p1 : wr.cell? ⟨g, 1, none⟩ = some (.int .u32 (base : Int)) := cell_row (j := 1) K2.out rfl
    have p2 : wr.cell? ⟨g, 2, none⟩ = some (.int .i64 size) := cell_row (j := 2) K2.out rfl
    have p3 : wr.cell? ⟨g, 3, none⟩ = some (.int .i64 port) := cell_row (j := 3) K2.out rfl
    have lg := heap_lt K2.out
    rcases hok with ⟨rfl, HS⟩ | ⟨rfl, HX⟩
    case inr =>
      rcases Nat.lt_or_ge k m with hk2 | hk2
      case inl =>
        have t2 : decide ((k : Int) < (m : Int)) = true := decide_eq_true (by omega)
        go_wp2_with fail
        go_quiet (fail)
        go_wp2_with fail
        go_ret
        exact ⟨by rw [HR.out, HX.out]; rfl, belowN B2.out _⟩
      obtain rfl : k = m := by omega
      have t2 : decide ((k : Int) < (k : Int)) = false := by simp
      go_wp2_with fail
      go_quiet (fail)
      go_wp2_with fail
      go_ret
      exact ⟨by rw [HR.out, HX.out]; rfl, belowN B2.out _⟩
    rcases Nat.lt_or_ge k m with hk2 | hk2
    case inr =>
      obtain rfl : k = m := by omega
      have t2 : decide ((k : Int) < (k : Int)) = false := by simp
      have HX0 := Lib.hid (HRE2.out HS.out)
      obtain ⟨s, rfl⟩ := Int.eq_ofNat_of_zero_le (show 0 ≤ size by omega)
      have HC := Lib.hid (fun W => rbytes_any ia k ic base (s : Int) port W h2 (by omega) (by omega))
      obtain ⟨nb, hnb⟩ : ∃ nb, nb = bytesN k (s : Int) := ⟨_, rfl⟩
      have hnb2 : nb ≤ 100000 := by rw [hnb]; unfold bytesN; omega
      rw [← hnb] at HX0 HC
      clear HS HRE2 HBAD hnb
      have k1 : IntKind.i64.wrap (base : Int) = (base : Int) := IntWalk.i64_in _ ⟨by omega, by omega⟩
      have k2 : IntKind.i64.wrap ((base : Int) + (nb : Int)) = (base : Int) + (nb : Int) := IntWalk.i64_in _ ⟨by omega, by omega⟩
      have HRR : Hid (res = decide ((base : Int) + (nb : Int) ≤ 4294967296)) := by
        show _ = _
        rw [HR.out, HX0.out]
        by_cases h : base + nb ≤ 4294967296
        · rw [decide_eq_true h, decide_eq_true (by omega)]
        · rw [decide_eq_false h, decide_eq_false (by omega)]
      go_wp2_with fail
      have B3 : Hid (Below w.heap.size w wr.drew) := B2.out.drew
      have K3 : Hid (wr.drew.heap[g]? = some (.cells #[.slice ia k ic, .int .u32 (base : Int), .int .i64 (s : Int), .int .i64 port] 57 (0, 0))) := K2.out
      go_region_held3 (fun W => (W.cell? ⟨g, 0, none⟩ = some (.slice ia k ic) ∧ W.cell? ⟨g, 1, none⟩ = some (.int .u32 (base : Int)) ∧ W.cell? ⟨g, 2, none⟩ = some (.int .i64 (s : Int)) ∧ W.cell? ⟨g, 3, none⟩ = some (.int .i64 port)) ∧ g < W.heap.size)
        (exact ⟨⟨cell_row (j := 0) K3.out rfl, cell_row (j := 1) K3.out rfl, cell_row (j := 2) K3.out rfl, cell_row (j := 3) K3.out rfl⟩, heap_lt K3.out⟩) (first
        | (go_at_call 29; (with_reducible refine (HC.out _).mono ?_); rintro e w5 ⟨rfl, hb⟩; have K3 := Lib.hid (kept K3.out hb); have B3 : Hid (Below w.heap.size w w5) := B3.out.trans (hb.mono B3.out.size); clear hb))
      go_wp2_with fail
      go_ret
      exact ⟨by rw [HRR.out]; rfl, B3.out⟩
    have t2 : decide ((k : Int) < (m : Int)) = true := decide_eq_true (by omega)
    have i1 : (k : Int) < (m : Int) := by omega
    obtain ⟨b, off, rfl, hb, hc⟩ := HA.out.cell (by rw [← HN.out]; omega)
    have x0 : wr.cell? ⟨b, off + k, none⟩ = some (.int .i64 (l.getD k 0)) := (B2.out.cell hb).trans (hc k (by rw [← HN.out]; omega))
    have hbw : b < wr.heap.size := Nat.lt_of_lt_of_le hb B2.out.size
    have HBK := Lib.hid (HBAD.out k (by rw [← HN.out]; exact hk2))
    have HNX : Hid (inOk l k = true → ∀ j, j < k + 1 → inOk l j = true) := fun h j hj => by
      rcases Nat.lt_succ_iff_lt_or_eq.1 hj with h1 | rfl
      · exact HS.out j h1
      · exact h
    have HIO : Hid (inOk l k = (decide (0 ≤ l.getD k 0) && decide (l.getD k 0 ≤ 15) && (decide (k = 0) || decide (l.getD (k - 1) 0 < l.getD k 0)))) := rfl
    by_cases e1 : 0 ≤ l.getD k 0
    case neg =>
      have HX : Hid (may = false) := HBK.out (by rw [HIO.out, decide_eq_false e1]; rfl)
      have t3 : decide (0 ≤ l.getD k 0) = false := decide_eq_false (by omega)
      clear HBK HNX HIO hc HS
      generalize l.getD k 0 = x at *
      -- an input word that may not be
      go_upto_region 5 with fail
      go_quiet (fail)
      go_wp2_with fail
      refine ⟨⟨k + 1, by omega, by go_num, .inr ⟨rfl, HX⟩, belowN BB.out _⟩, ?_⟩
      simp [intOf]; omega
    have t3 : decide (0 ≤ l.getD k 0) = true := decide_eq_true (by omega)
    by_cases e2 : l.getD k 0 ≤ 15
    case neg =>
      have HX : Hid (may = false) := HBK.out (by rw [HIO.out, decide_eq_false e2, Bool.and_false]; rfl)
      have t4 : decide (l.getD k 0 ≤ 15) = false := decide_eq_false (by omega)
      clear HBK HNX HIO hc HS
      generalize l.getD k 0 = x at *
      -- an input word that may not be
      go_upto_region 5 with fail
      go_quiet (fail)
      go_wp2_with fail
      refine ⟨⟨k + 1, by omega, by go_num, .inr ⟨rfl, HX⟩, belowN BB.out _⟩, ?_⟩
      simp [intOf]; omega
    have t4 : decide (l.getD k 0 ≤ 15) = true := decide_eq_true (by omega)
    by_cases e3 : k = 0
    case pos =>
      have HS2 := Lib.hid (HNX.out (by rw [HIO.out, decide_eq_true e1, decide_eq_true e2, decide_eq_true e3]; rfl))
      subst e3
      have x0 : wr.cell? ⟨b, off, none⟩ = some (.int .i64 (l.getD 0 0)) := x0
      clear HBK HNX HIO hc HS
      generalize l.getD 0 0 = x at *
      go_upto_region 5 with fail
      go_quiet (fail)
      go_wp2_with fail
      exact ⟨⟨1, by omega, rfl, .inl ⟨rfl, HS2⟩, belowN BB.out _⟩, by simp [intOf]; omega⟩
    have t5 : (((k : Nat) : Int) == 0) = false := beq_eq_false_iff_ne.2 (by omega)
    obtain ⟨j, hj⟩ : ∃ j, k = j + 1 := ⟨k - 1, by omega⟩
    have x1 : wr.cell? ⟨b, off + j, none⟩ = some (.int .i64 (l.getD j 0)) := (B2.out.cell hb).trans (hc j (by rw [← HN.out]; omega))
    have i2 : (j : Int) < (m : Int) := by omega
    have i3 : (k : Int) - 1 = (j : Int) := by omega
    have i4 : IntKind.i64.wrap ((k : Int) - 1) = (j : Int) := by rw [i3]; exact IntWalk.i64_in _ ⟨by omega, by omega⟩
    have hj1 : k - 1 = j := by omega
    rw [hj1] at HIO
    by_cases e4 : l.getD j 0 < l.getD k 0
    case neg =>
      have HX : Hid (may = false) := HBK.out (by rw [HIO.out, decide_eq_false e3, decide_eq_false e4, Bool.false_or, Bool.and_false])
      have t6 : decide (l.getD j 0 < l.getD k 0) = false := decide_eq_false (by omega)
      clear HBK HNX HIO hc HS hj1 hj
      generalize l.getD k 0 = x at *
      generalize l.getD j 0 = y at *
      go_upto_region 5 with fail
      go_quiet (fail)
      go_wp2_with fail
      refine ⟨⟨k + 1, by omega, by go_num, .inr ⟨rfl, HX⟩, belowN BB.out _⟩, ?_⟩
      simp [intOf]; omega
    have HS2 := Lib.hid (HNX.out (by rw [HIO.out, decide_eq_true e1, decide_eq_true e2, decide_eq_true e4, Bool.or_true]; rfl))
    have t6 : decide (l.getD j 0 < l.getD k 0) = true := decide_eq_true (by omega)
    clear HBK HNX HIO hc HS hj1 hj
    generalize l.getD k 0 = x at *
    generalize l.getD j 0 = y at *
    go_upto_region 5 with fail
    go_quiet (fail)
    go_wp2_with fail
    refine ⟨⟨k + 1, by omega, by go_num, .inl ⟨rfl, HS2⟩, belowN BB.out _⟩, ?_⟩
    simp [intOf]; omega
end Go.Proofs.YtdlpgoackmgdkaaGreatDoor
