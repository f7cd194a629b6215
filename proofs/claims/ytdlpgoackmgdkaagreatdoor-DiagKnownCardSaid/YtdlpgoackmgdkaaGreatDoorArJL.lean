/- The statements' own helpers: the document's May, numbers that are these, the document's plan. -/
import Derived.Test.YtdlpgoackmgdkaaGreatDoorArHI
import Derived.Test.YtdlpgoackmgdkaaGreatDoorArFG
import Derived.Test.YtdlpgoackmgdkaaGreatDoorTake
namespace Go.Proofs.YtdlpgoackmgdkaaGreatDoor
open Go.RowKit Go.Shelf
set_option linter.unusedVariables false
set_option linter.unusedSimpArgs false
def NumsAt (w : World) (a : Option Addr) (l : List Nat) : Prop := SliceN w a l.length 1 (fun i _ => .int .u32 ((l.getD i 0 : Nat) : Int))
theorem nums_of_own {w : World} {base : Nat} {e : TypeId} {v : Value} {l : List Nat} (h : w.ownsRow base e 1 v l.length (u32L l)) : ∃ a c, v = .slice a l.length c ∧ l.length ≤ c ∧ c ≤ maxLen ∧ NumsAt w a l := by
  have e1 : u32L l = l.flatMap fun x : Nat => [Value.int .u32 (x : Int)] := by
    unfold u32L; clear h; induction l with
    | nil => rfl
    | cons x r ih => simp [ih]
  rw [e1] at h
  obtain ⟨a, c, h1, h2, h3, h4⟩ := slice_of_own (f := fun x : Nat => [Value.int .u32 (x : Int)]) (sz := 1) (fun _ => rfl) 0 h
  refine ⟨a, c, h1, h2, h3, ?_⟩
  rcases h4 with h4 | ⟨b, off, e, hb, hc⟩
  · exact .inl h4
  · refine .inr ⟨b, off, e, hb, fun i hi j hj => ?_⟩
    rw [hc i hi j hj]
    obtain rfl : j = 0 := by omega
    rfl
set_option maxHeartbeats 4000000 in
theorem is_any (A B : List Nat) (a b : Option Addr) (c d : Nat) (w : World) (hA : NumsAt w a A) (hB : NumsAt w b B) (h1 : A.length ≤ 1000000) (h2 : B.length ≤ 1000000) :
    Calls Tryz.prog 50 #[.slice a A.length c, .slice b B.length d] w fun e w' => e = .returned (.bool (decide (A = B))) ∧ w' = w := by
  by_cases hl : A.length = B.length
  case neg =>
    have t1 : ((A.length : Int) == (B.length : Int)) = false := beq_eq_false_iff_ne.2 (by omega)
    have HR : Hid (decide (A = B) = false) := decide_eq_false (fun e => hl (by rw [e]))
    generalize decide (A = B) = res at *
    go_enter Tryz.func50, Tryz.ntmps50
    go_wp2_with fail
    go_ret
    exact ⟨by rw [HR.out]; rfl, rfl⟩
  have HA := Lib.hid hA; have HB := Lib.hid hB
  have HNO : Hid (∀ k, A.getD k 0 ≠ B.getD k 0 → decide (A = B) = false) := fun k h => decide_eq_false (fun e => h (by rw [e]))
  have HYES : Hid ((∀ k, k < A.length → A.getD k 0 = B.getD k 0) → decide (A = B) = true) := fun h => decide_eq_true (List.ext_getElem hl (fun i h3 h4 => by
    have := h i h3
    simpa [List.getD_eq_getElem?_getD, h3, h4] using this))
  generalize decide (A = B) = res at *
  obtain ⟨n, hn⟩ : ∃ n, n = A.length := ⟨_, rfl⟩
  obtain ⟨m, hm⟩ : ∃ m, m = B.length := ⟨_, rfl⟩
  rw [← hn] at h1 ⊢
  rw [← hm] at h2 ⊢
  have hnm : n = m := by omega
  have HN := Lib.hid hn; have HM := Lib.hid hm
  have t1 : ((n : Int) == (m : Int)) = true := beq_iff_eq.2 (by omega)
  have HNM := Lib.hid hnm
  clear hA hB hn hm hl hnm
  go_enter Tryz.func50, Tryz.ntmps50
  go_wp2_with fail
  go_loopw [14] (fun i wr => ∃ k : Nat, k ≤ n ∧ i = .int .i64 (k : Int) ∧ wr = w ∧ Hid (∀ j, j < k → A.getD j 0 = B.getD j 0)) (fun i _ => n - (intOf i).toNat)
  case atStart => exact ⟨0, Nat.zero_le _, rfl, rfl, fun j hj => absurd hj (by omega)⟩
  case round =>
    obtain ⟨k, hk, rfl, rfl, HS⟩ := hrel
    rcases Nat.lt_or_ge k n with hk2 | hk2
    case inr =>
      obtain rfl : k = n := by omega
      have t2 : decide ((k : Int) < (k : Int)) = false := by simp
      have HR := Lib.hid (HYES.out (fun j hj => HS.out j (by rw [HN.out]; exact hj)))
      go_wp2_with fail
      go_ret
      exact ⟨by rw [HR.out]; rfl, rfl⟩
    have t2 : decide ((k : Int) < (n : Int)) = true := decide_eq_true (by omega)
    have hkm : k < m := by have := HNM.out; omega
    have i1 : (k : Int) < (m : Int) := by omega
    obtain ⟨ab, ao, rfl, hab, hac⟩ : ∃ b off, a = some ⟨b, off, none⟩ ∧ b < wr.heap.size ∧ ∀ i, i < A.length → ∀ j, j < 1 → wr.cell? ⟨b, off + i * 1 + j, none⟩ = some (.int .u32 ((A.getD i 0 : Nat) : Int)) := SliceN.at HA.out (by rw [← HN.out]; omega)
    obtain ⟨bb, bo, rfl, hbb, hbc⟩ : ∃ b' off, b = some ⟨b', off, none⟩ ∧ b' < wr.heap.size ∧ ∀ i, i < B.length → ∀ j, j < 1 → wr.cell? ⟨b', off + i * 1 + j, none⟩ = some (.int .u32 ((B.getD i 0 : Nat) : Int)) := SliceN.at HB.out (by rw [← HM.out]; omega)
    have a0 : wr.cell? ⟨ab, ao + k, none⟩ = some (.int .u32 ((A.getD k 0 : Nat) : Int)) := by have := hac k (by rw [← HN.out]; exact hk2) 0 (by omega); simpa using this
    have b0 : wr.cell? ⟨bb, bo + k, none⟩ = some (.int .u32 ((B.getD k 0 : Nat) : Int)) := by have := hbc k (by rw [← HM.out]; exact hkm) 0 (by omega); simpa using this
    have HX := Lib.hid (HNO.out k)
    have HNX : Hid (A.getD k 0 = B.getD k 0 → ∀ j, j < k + 1 → A.getD j 0 = B.getD j 0) := fun h j hj => by
      rcases Nat.lt_succ_iff_lt_or_eq.1 hj with h1 | rfl
      · exact HS.out j h1
      · exact h
    generalize A.getD k 0 = x at *
    generalize B.getD k 0 = y at *
    clear hac hbc HS HYES HNO
    by_cases e : x = y
    case neg =>
      have t3 : ((x : Int) == (y : Int)) = false := beq_eq_false_iff_ne.2 (by omega)
      have HR := Lib.hid (HX.out e)
      clear HX HNX
      go_wp2_with fail
      go_ret
      exact ⟨by rw [HR.out]; rfl, rfl⟩
    have t3 : ((x : Int) == (y : Int)) = true := beq_iff_eq.2 (by omega)
    have HS2 := Lib.hid (HNX.out e)
    clear HX HNX e
    go_wp2_with fail
    refine ⟨⟨k + 1, by omega, by go_num, trivial, HS2⟩, ?_⟩
    simp [intOf]; omega
def planL : List PL := [⟨0, 2⟩, ⟨2, 0⟩, ⟨2, 1⟩]
set_option maxHeartbeats 4000000 in
theorem plan_any (w : World) : Calls Tryz.prog 33 #[] w fun e w' => (∃ a, e = .returned (.agg #[.int .u32 8, .int .i64 4, .slice a 3 3]) ∧ PlsAt w' a planL) ∧ Below w.heap.size w w' := by
  go_enter Tryz.func33, Tryz.ntmps33
  go_upto_region 1 with fail
  go_wp2_with fail
  have z0 : (w.alloc (.cells #[.int .u32 8, .int .i64 4, .slice (some ⟨w.heap.size + 1, 0, none⟩) 3 3] 25)).heap.size = w.heap.size + 1 := Array.size_push _
  obtain ⟨w1, hw1⟩ : ∃ x, x = (w.alloc (.cells #[.int .u32 8, .int .i64 4, .slice (some ⟨w.heap.size + 1, 0, none⟩) 3 3] 25)).alloc (.cells #[.int .u32 0, .int .i64 2, .int .u32 2, .int .i64 0, .int .u32 2, .int .i64 1] 71) := ⟨_, rfl⟩
  have B1 : Below w.heap.size w w1 := by rw [hw1]; exact (alloc_below w _).trans ((alloc_below _ _).mono (by rw [z0]; omega))
  have P1 : w1.heap[w.heap.size]? = some (.cells #[.int .u32 8, .int .i64 4, .slice (some ⟨w.heap.size + 1, 0, none⟩) 3 3] 25 (0, 0)) := by rw [hw1]; exact kept (heap_alloc_new _ _) (alloc_below _ _)
  have R1 : w1.heap[w.heap.size + 1]? = some (.cells #[.int .u32 0, .int .i64 2, .int .u32 2, .int .i64 0, .int .u32 2, .int .i64 1] 71 (0, 0)) := by
    have h := heap_alloc_new (w.alloc (.cells #[.int .u32 8, .int .i64 4, .slice (some ⟨w.heap.size + 1, 0, none⟩) 3 3] 25)) (.cells #[.int .u32 0, .int .i64 2, .int .u32 2, .int .i64 0, .int .u32 2, .int .i64 1] 71)
    rw [z0] at h
    rw [hw1]; exact h
  rw [← hw1]
  have q0 := cell_row (j := 0) P1 rfl
  have q1 := cell_row (j := 1) P1 rfl
  have q2 := cell_row (j := 2) P1 rfl
  refine ⟨rfl, .agg #[.int .u32 8, .int .i64 4, .slice (some ⟨w.heap.size + 1, 0, none⟩) 3 3], by simp [results, Tryz.f33, go_sem, q0, q1, q2], ⟨_, rfl, .inr ⟨_, 0, rfl, heap_lt R1, fun i hi j hj => ?_⟩⟩, B1⟩
  match i, hi, j, hj with
  | 0, _, 0, _ => exact cell_row (j := 0) R1 rfl
  | 0, _, 1, _ => exact cell_row (j := 1) R1 rfl
  | 1, _, 0, _ => exact cell_row (j := 2) R1 rfl
  | 1, _, 1, _ => exact cell_row (j := 3) R1 rfl
  | 2, _, 0, _ => exact cell_row (j := 4) R1 rfl
  | 2, _, 1, _ => exact cell_row (j := 5) R1 rfl
  | n + 3, h, _, _ => exact absurd h (by unfold planL; simp)
  | _, _, n + 2, h => omega
set_option maxHeartbeats 4000000 in
theorem rmay_any (ls : List PL) (a : Option Addr) (c base : Nat) (port : Int) (w : World) (hA : PlsAt w a ls) (hok : ∀ i, i < ls.length → (ls.getD i pl0).ok) (hm : ls.length ≤ 9223372036854775807) (hb0 : base < 4294967296) :
    Calls Tryz.prog 49 #[.int .u32 (base : Int), .int .i64 port, .slice a ls.length c] w fun e w' => e = .returned (.bool (mayB base port ls)) ∧ w' = w := by
  have HA := Lib.hid hA; have HOK := Lib.hid hok
  have HBAD := Lib.hid (fun k hk => mayB_bad (base := base) (port := port) (ls := ls) (k := k) hk)
  have HRE := Lib.hid (fun h => mayB_rest (base := base) (port := port) (ls := ls) h)
  have HHD : Hid ((decide (ls.length ≤ 500) && decide (0 ≤ port) && decide (port < 16) && decide (base ≤ 4294967292)) = false → mayB base port ls = false) := fun h => by unfold mayB; rw [Bool.and_assoc, Bool.and_assoc, Bool.and_assoc, ← Bool.and_assoc (decide (0 ≤ port)), ← Bool.and_assoc (decide (ls.length ≤ 500)), ← Bool.and_assoc (decide (ls.length ≤ 500)), h, Bool.and_false]
  generalize mayB base port ls = res at *
  obtain ⟨n, hn⟩ : ∃ n, n = ls.length := ⟨_, rfl⟩
  rw [← hn] at hm ⊢
  rw [← hn] at HHD
  have HN := Lib.hid hn
  clear hA hok hn
  go_enter Tryz.func49, Tryz.ntmps49
  go_upto_region 1 with fail
  by_cases h1 : n ≤ 500
  case neg =>
    have t3 : decide ((n : Int) ≤ 500) = false := decide_eq_false (by omega)
    have HF : Hid (res = false) := HHD.out (by rw [decide_eq_false h1]; rfl)
    go_wp2_with fail
    go_loopw [7, 8] (fun o i wr => o = .bool false ∧ i = .int .i64 0 ∧ wr = w) (fun _ _ _ => 0)
    case atStart => exact ⟨rfl, rfl, rfl⟩
    case round =>
      obtain ⟨rfl, rfl, rfl⟩ := hrel
      by_cases h0 : 0 < n
      case pos =>
        have t2 : decide ((0 : Int) < (n : Int)) = true := decide_eq_true (by omega)
        go_wp2_with fail
        go_ret
        exact ⟨by rw [HF.out]; rfl, rfl⟩
      case neg =>
        have t2 : decide ((0 : Int) < (n : Int)) = false := decide_eq_false (by omega)
        go_wp2_with fail
        go_ret
        exact ⟨by rw [HF.out]; rfl, rfl⟩
  have t3 : decide ((n : Int) ≤ 500) = true := decide_eq_true (by omega)
  by_cases h2 : 0 ≤ port
  case neg =>
    have t4 : decide (0 ≤ port) = false := decide_eq_false (by omega)
    have HF : Hid (res = false) := HHD.out (by rw [decide_eq_false h2, Bool.and_false]; rfl)
    go_wp2_with fail
    go_loopw [7, 8] (fun o i wr => o = .bool false ∧ i = .int .i64 0 ∧ wr = w) (fun _ _ _ => 0)
    case atStart => exact ⟨rfl, rfl, rfl⟩
    case round =>
      obtain ⟨rfl, rfl, rfl⟩ := hrel
      by_cases h0 : 0 < n
      case pos =>
        have t2 : decide ((0 : Int) < (n : Int)) = true := decide_eq_true (by omega)
        go_wp2_with fail
        go_ret
        exact ⟨by rw [HF.out]; rfl, rfl⟩
      case neg =>
        have t2 : decide ((0 : Int) < (n : Int)) = false := decide_eq_false (by omega)
        go_wp2_with fail
        go_ret
        exact ⟨by rw [HF.out]; rfl, rfl⟩
  have t4 : decide (0 ≤ port) = true := decide_eq_true (by omega)
  by_cases h3 : port < 16
  case neg =>
    have t5 : decide (port ≤ 15) = false := decide_eq_false (by omega)
    have HF : Hid (res = false) := HHD.out (by rw [decide_eq_false h3, Bool.and_false]; rfl)
    go_wp2_with fail
    go_loopw [7, 8] (fun o i wr => o = .bool false ∧ i = .int .i64 0 ∧ wr = w) (fun _ _ _ => 0)
    case atStart => exact ⟨rfl, rfl, rfl⟩
    case round =>
      obtain ⟨rfl, rfl, rfl⟩ := hrel
      by_cases h0 : 0 < n
      case pos =>
        have t2 : decide ((0 : Int) < (n : Int)) = true := decide_eq_true (by omega)
        go_wp2_with fail
        go_ret
        exact ⟨by rw [HF.out]; rfl, rfl⟩
      case neg =>
        have t2 : decide ((0 : Int) < (n : Int)) = false := decide_eq_false (by omega)
        go_wp2_with fail
        go_ret
        exact ⟨by rw [HF.out]; rfl, rfl⟩
  have t5 : decide (port ≤ 15) = true := decide_eq_true (by omega)
  by_cases h4 : base ≤ 4294967292
  case neg =>
    have t6 : decide ((base : Int) ≤ 4294967292) = false := decide_eq_false (by omega)
    have HF : Hid (res = false) := HHD.out (by rw [decide_eq_false h4, Bool.and_false])
    go_wp2_with fail
    go_loopw [7, 8] (fun o i wr => o = .bool false ∧ i = .int .i64 0 ∧ wr = w) (fun _ _ _ => 0)
    case atStart => exact ⟨rfl, rfl, rfl⟩
    case round =>
      obtain ⟨rfl, rfl, rfl⟩ := hrel
      by_cases h0 : 0 < n
      case pos =>
        have t2 : decide ((0 : Int) < (n : Int)) = true := decide_eq_true (by omega)
        go_wp2_with fail
        go_ret
        exact ⟨by rw [HF.out]; rfl, rfl⟩
      case neg =>
        have t2 : decide ((0 : Int) < (n : Int)) = false := decide_eq_false (by omega)
        go_wp2_with fail
        go_ret
        exact ⟨by rw [HF.out]; rfl, rfl⟩
  have t6 : decide ((base : Int) ≤ 4294967292) = true := decide_eq_true (by omega)
  have HF : Hid ((∀ j, j < n → lineOk (ls.getD j pl0) = true) → res = true) := fun h => by rw [HRE.out (fun j hj => h j (by rw [HN.out]; exact hj)), decide_eq_true (show ls.length ≤ 500 by rw [← HN.out]; exact h1), decide_eq_true h4, decide_eq_true h3, decide_eq_true h2]; rfl
  clear HRE HHD
  go_wp2_with fail
  go_loopw [7, 8] (fun o i wr => ∃ k : Nat, k ≤ n ∧ i = .int .i64 (k : Int) ∧ wr = w ∧ ((o = .bool true ∧ Hid (∀ j, j < k → lineOk (ls.getD j pl0) = true)) ∨ (o = .bool false ∧ Hid (res = false)))) (fun _ i _ => n - (intOf i).toNat)
  case atStart => exact ⟨0, Nat.zero_le _, rfl, rfl, .inl ⟨rfl, fun j hj => absurd hj (by omega)⟩⟩
  case round =>
    obtain ⟨k, hk, rfl, rfl, ⟨rfl, HS⟩ | ⟨rfl, HF2⟩⟩ := hrel
    case inr =>
      rcases Nat.lt_or_ge k n with hk2 | hk2
      case inl =>
        have t2 : decide ((k : Int) < (n : Int)) = true := decide_eq_true (by omega)
        go_wp2_with fail
        go_ret
        exact ⟨by rw [HF2.out]; rfl, rfl⟩
      obtain rfl : k = n := by omega
      have t2 : decide ((k : Int) < (k : Int)) = false := by simp
      go_wp2_with fail
      go_ret
      exact ⟨by rw [HF2.out]; rfl, rfl⟩
    rcases Nat.lt_or_ge k n with hk2 | hk2
    case inr =>
      obtain rfl : k = n := by omega
      have t2 : decide ((k : Int) < (k : Int)) = false := by simp
      have HR := Lib.hid (HF.out HS.out)
      clear HF
      go_wp2_with fail
      go_ret
      exact ⟨by rw [HR.out]; rfl, rfl⟩
    have t2 : decide ((k : Int) < (n : Int)) = true := decide_eq_true (by omega)
    obtain ⟨b, off, rfl, hb, hc⟩ := HA.out.at (by rw [← HN.out]; omega)
    have a0 : wr.cell? ⟨b, off + k * 2, none⟩ = some (.int .u32 ((ls.getD k pl0).fr : Int)) := hc k (by rw [← HN.out]; omega) 0 (by omega)
    have a1 : wr.cell? ⟨b, off + k * 2 + 1, none⟩ = some (.int .i64 (ls.getD k pl0).rt) := hc k (by rw [← HN.out]; omega) 1 (by omega)
    have HBK := Lib.hid (HBAD.out k (by rw [← HN.out]; exact hk2))
    have hfr := (HOK.out k (by rw [← HN.out]; exact hk2)).fr
    have HNX : Hid (lineOk (ls.getD k pl0) = true → ∀ j, j < k + 1 → lineOk (ls.getD j pl0) = true) := fun h j hj => by
      rcases Nat.lt_succ_iff_lt_or_eq.1 hj with h1 | rfl
      · exact HS.out j h1
      · exact h
    have HLO : Hid (lineOk (ls.getD k pl0) = (!decide ((ls.getD k pl0).fr = 4294967295) && decide (0 ≤ (ls.getD k pl0).rt) && decide ((ls.getD k pl0).rt ≤ 65534))) := rfl
    clear hc
    generalize ls.getD k pl0 = x at *
    obtain ⟨fr, rt⟩ := x
    simp only at a0 a1 HLO hfr
    have i1 : (k : Int) < (n : Int) := by omega
    clear HS HF HBAD
    by_cases e1 : fr = 4294967295
    case pos =>
      have t3 : decide ((fr : Int) < 4294967295) = false := decide_eq_false (by omega)
      have HR : Hid (res = false) := HBK.out (by rw [HLO.out, decide_eq_true e1]; rfl)
      go_wp2_with fail
      refine ⟨⟨k + 1, by omega, by go_num, trivial, .inr ⟨rfl, HR⟩⟩, ?_⟩
      simp [intOf]; omega
    have t3 : decide ((fr : Int) < 4294967295) = true := decide_eq_true (by omega)
    by_cases e2 : 0 ≤ rt
    case neg =>
      have t4 : decide (0 ≤ rt) = false := decide_eq_false (by omega)
      have HR : Hid (res = false) := HBK.out (by rw [HLO.out, decide_eq_false e2, Bool.and_false]; rfl)
      go_wp2_with fail
      refine ⟨⟨k + 1, by omega, by go_num, trivial, .inr ⟨rfl, HR⟩⟩, ?_⟩
      simp [intOf]; omega
    have t4 : decide (0 ≤ rt) = true := decide_eq_true (by omega)
    by_cases e3 : rt ≤ 65534
    case neg =>
      have t5 : decide (rt ≤ 65534) = false := decide_eq_false (by omega)
      have HR : Hid (res = false) := HBK.out (by rw [HLO.out, decide_eq_false e3, Bool.and_false])
      go_wp2_with fail
      refine ⟨⟨k + 1, by omega, by go_num, trivial, .inr ⟨rfl, HR⟩⟩, ?_⟩
      simp [intOf]; omega
    have t5 : decide (rt ≤ 65534) = true := decide_eq_true (by omega)
    have HS2 := Lib.hid (HNX.out (by rw [HLO.out, decide_eq_true e2, decide_eq_true e3, decide_eq_false e1]; rfl))
    clear HBK HNX HLO
    go_wp2_with fail
    refine ⟨⟨k + 1, by omega, by go_num, trivial, .inl ⟨rfl, HS2⟩⟩, ?_⟩
    simp [intOf]; omega
end Go.Proofs.YtdlpgoackmgdkaaGreatDoor
/- may: whether a plan may be. -/
namespace Go.Proofs.YtdlpgoackmgdkaaGreatDoor
open Go.RowKit Go.Shelf
set_option linter.unusedVariables false
set_option linter.unusedSimpArgs false
set_option maxRecDepth 100000 in
set_option maxHeartbeats 4000000 in
theorem pmay_any (ls : List PL) (a : Option Addr) (c base : Nat) (port : Int) (w : World) (hA : PlsAt w a ls) (hok : ∀ i, i < ls.length → (ls.getD i pl0).ok) (hm : ls.length ≤ 100000) (hb0 : base < 4294967296) :
    Calls Tryz.prog 14 #[.agg #[.int .u32 (base : Int), .int .i64 port, .slice a ls.length c]] w fun e w' => e = .returned (.bool (mayB base port ls)) ∧ Below w.heap.size w w' := by
  have HOT := Lib.hid (fun W hW => others_any ls a c base port W hW hm)
  have HMY := Lib.hid (fun a' c' W hW => rmay_any ls a' c' base port W hW hok (by omega) hb0)
  have HA := Lib.hid hA
  generalize mayB base port ls = res at *
  obtain ⟨n, hn⟩ : ∃ n, n = ls.length := ⟨_, rfl⟩
  rw [← hn] at HOT HMY hm ⊢
  have HN := Lib.hid hn
  obtain ⟨w1, hw1⟩ : ∃ x, x = w.alloc (.cells #[.int .u32 (base : Int), .int .i64 port, .slice a n c] 25) := ⟨_, rfl⟩
  have B1 : Hid (Below w.heap.size w w1) := by rw [hw1]; exact alloc_below _ _
  have K1 : Hid (w1.heap[w.heap.size]? = some (.cells #[.int .u32 (base : Int), .int .i64 port, .slice a n c] 25 (0, 0))) := by rw [hw1]; exact heap_alloc_new _ _
  have HW1 := Lib.hid hw1
  obtain ⟨g, hg⟩ : ∃ g, g = w.heap.size := ⟨_, rfl⟩
  rw [← hg] at K1
  have HG := Lib.hid hg
  clear hA hok hw1 hg hn
  go_enter Tryz.func14, Tryz.ntmps14
  go_upto_region 1 with fail
  rw [← HW1.out, ← HG.out]
  clear HW1
  have KS : Hid (∀ W : World, (W.heap[g]? = some (.cells #[.int .u32 (base : Int), .int .i64 port, .slice a n c] 25 (0, 0)) ∧ W.cell? ⟨g, 0, none⟩ = some (.int .u32 (base : Int)) ∧ W.cell? ⟨g, 1, none⟩ = some (.int .i64 port) ∧ W.cell? ⟨g, 2, none⟩ = some (.slice a n c)) → (W.cell? ⟨g, 0, none⟩ = some (.int .u32 (base : Int)) ∧ W.cell? ⟨g, 1, none⟩ = some (.int .i64 port) ∧ W.cell? ⟨g, 2, none⟩ = some (.slice a n c))) := fun W h => h.2
  have kb : Hid (∀ W : World, W.heap[g]? = some (.cells #[.int .u32 (base : Int), .int .i64 port, .slice a n c] 25 (0, 0)) → (W.heap[g]? = some (.cells #[.int .u32 (base : Int), .int .i64 port, .slice a n c] 25 (0, 0)) ∧ W.cell? ⟨g, 0, none⟩ = some (.int .u32 (base : Int)) ∧ W.cell? ⟨g, 1, none⟩ = some (.int .i64 port) ∧ W.cell? ⟨g, 2, none⟩ = some (.slice a n c))) := fun W h => ⟨h, cell_row (j := 0) h rfl, cell_row (j := 1) h rfl, cell_row (j := 2) h rfl⟩
  refine wp_region_T (fun W => W.heap[g]? = some (.cells #[.int .u32 (base : Int), .int .i64 port, .slice a n c] 25 (0, 0)) ∧ W.cell? ⟨g, 0, none⟩ = some (.int .u32 (base : Int)) ∧ W.cell? ⟨g, 1, none⟩ = some (.int .i64 port) ∧ W.cell? ⟨g, 2, none⟩ = some (.slice a n c)) [] (by kernel_rfl) ?_
  change wpAnyT _ _ _ _ _ _ _ _ _ (World.drew _)
  have S1 := kb.out w1.drew K1.out
  have B8 : Hid (Below w.heap.size w w1.drew) := B1.out.drew
  clear K1 B1
  generalize w1.drew = w8 at *
  refine wpAnyT_pure (i := 0) (v := ?_) rfl (by kernel_rfl) (by kernel_rfl) (by kernel_rfl) (by kernel_rfl) (fun _ _ _ h => h) (Or.inl ⟨by kernel_rfl, ?_⟩) (fun _ => by assumption) ?_
  rotate_left
  · intro V hV; clear hV; go_simp; try (with_reducible rfl)
  try simp only [Act.put, List.getElem_toArray, List.getElem_cons_succ, List.getElem_cons_zero, List.setIfInBounds_toArray, List.set_cons_zero, List.set_cons_succ]
  refine wpAnyT_take (i := 1) (v := ?_) rfl (by kernel_rfl) (by kernel_rfl) (by kernel_rfl) (by kernel_rfl) (fun _ _ _ h => h) (Or.inl ⟨by kernel_rfl, ?_⟩) (by assumption) ?_
  rotate_left
  · intro V hV; have k := KS.out V hV; clear hV; go_simp; try (with_reducible rfl)
  try simp only [Act.put, List.getElem_toArray, List.getElem_cons_succ, List.getElem_cons_zero, List.setIfInBounds_toArray, List.set_cons_zero, List.set_cons_succ]
  refine wpAnyT_pure (i := 2) (v := ?_) rfl (by kernel_rfl) (by kernel_rfl) (by kernel_rfl) (by kernel_rfl) (fun _ _ _ h => h) (Or.inl ⟨by kernel_rfl, ?_⟩) (fun _ => by assumption) ?_
  rotate_left
  · intro V hV; clear hV; go_simp; try (with_reducible rfl)
  try simp only [Act.put, List.getElem_toArray, List.getElem_cons_succ, List.getElem_cons_zero, List.setIfInBounds_toArray, List.set_cons_zero, List.set_cons_succ]
  refine wpAnyT_take (i := 3) (v := ?_) rfl (by kernel_rfl) (by kernel_rfl) (by kernel_rfl) (by kernel_rfl) (fun _ _ _ h => h) (Or.inl ⟨by kernel_rfl, ?_⟩) (by assumption) ?_
  rotate_left
  · intro V hV; have k := KS.out V hV; clear hV; go_simp; try (with_reducible rfl)
  try simp only [Act.put, List.getElem_toArray, List.getElem_cons_succ, List.getElem_cons_zero, List.setIfInBounds_toArray, List.set_cons_zero, List.set_cons_succ]
  refine wpAnyT_take (i := 4) (v := ?_) rfl (by kernel_rfl) (by kernel_rfl) (by kernel_rfl) (by kernel_rfl) (fun _ _ _ h => h) (Or.inl ⟨by kernel_rfl, ?_⟩) (by assumption) ?_
  rotate_left
  · intro V hV; have k := KS.out V hV; clear hV; go_simp; try (with_reducible rfl)
  try simp only [Act.put, List.getElem_toArray, List.getElem_cons_succ, List.getElem_cons_zero, List.setIfInBounds_toArray, List.set_cons_zero, List.set_cons_succ]
  have HO := Lib.hid (HOT.out w8 (HA.out.below B8.out))
  refine wpAnyT_one (i := 5) (by kernel_rfl) rfl (fun K hK => ?_)
  go_simp
  refine HO.out.mono ?_
  rintro e w9 ⟨⟨v, rfl, hv⟩, hb9⟩
  obtain ⟨a2, c2, rfl, _, _, hp⟩ := pls_of_own (ls := ls) hv
  rw [← HN.out]
  have S9 := kb.out w9 (kept S1.1 hb9)
  refine hK.out _ _ (fun _ => S9) ?_
  have B9 : Hid (Below w.heap.size w w9) := B8.out.trans (hb9.mono B8.out.size)
  have HM := Lib.hid (HMY.out a2 c2 w9 hp)
  clear hK K S1 hb9 HO B8 hv hp HOT HMY
  try simp only [Act.put, List.getElem_toArray, List.getElem_cons_succ, List.getElem_cons_zero, List.setIfInBounds_toArray, List.set_cons_zero, List.set_cons_succ]
  refine wpAnyT_one (i := 6) (by kernel_rfl) rfl (fun K hK => ?_)
  go_simp
  refine HM.out.mono ?_
  rintro e w10 ⟨rfl, rfl⟩
  refine hK.out _ _ (fun _ => S9) ?_
  clear hK K
  try simp only [Act.put, List.getElem_toArray, List.getElem_cons_succ, List.getElem_cons_zero, List.setIfInBounds_toArray, List.set_cons_zero, List.set_cons_succ]
  refine wpAnyT_pure (i := 7) (v := ?_) rfl (by kernel_rfl) (by kernel_rfl) (by kernel_rfl) (by kernel_rfl) (fun _ _ _ h => h) (Or.inl ⟨by kernel_rfl, ?_⟩) (fun _ => by assumption) ?_
  rotate_left
  · intro V hV; clear hV; go_simp; try (with_reducible rfl)
  try simp only [Act.put, List.getElem_toArray, List.getElem_cons_succ, List.getElem_cons_zero, List.setIfInBounds_toArray, List.set_cons_zero, List.set_cons_succ]
  refine wpAnyT_done (by kernel_rfl) ?_ _
  go_wp2_with fail
  go_ret
  exact ⟨rfl, B9.out⟩
end Go.Proofs.YtdlpgoackmgdkaaGreatDoor
/- works; the plain laws: what is sent is what is due. -/
namespace Go.Proofs.YtdlpgoackmgdkaaGreatDoor
open Go.RowKit Go.Shelf
set_option linter.unusedVariables false
set_option linter.unusedSimpArgs false
theorem planL_ok : ∀ i, i < planL.length → (planL.getD i pl0).ok := fun i hi => by
  match i, hi with
  | 0, _ => exact ⟨by decide, by decide, by decide⟩
  | 1, _ => exact ⟨by decide, by decide, by decide⟩
  | 2, _ => exact ⟨by decide, by decide, by decide⟩
  | n + 3, h => exact absurd h (by unfold planL; simp)
theorem planL_may : mayB 8 4 planL = true := by decide
theorem planL_sends : sentsN planL 0 4 = [3, 0, 2, 0] := by decide
theorem planL_due : dueL planL 2 = (1, true) := by decide
def planS : ByteArray := ⟨#[97, 116, 32, 48, 32, 114, 111, 117, 116, 101, 32, 50, 10, 97, 116, 32, 50, 32, 114, 111, 117, 116, 101, 32, 48, 10, 97, 116, 32, 50, 32, 114, 111, 117, 116, 101, 32, 49, 10]⟩
theorem planL_text : bytesOf (printT planL) = planS := by
  have h : printT planL = planS.data.toList := by simp [printT, planL, lineT, Lib.itoa, Lib.decDigits, planS]
  rw [h, bytesOf_of]
set_option maxHeartbeats 4000000 in
theorem works_any (w : World) (hL : LibW w) : Calls Tryz.prog 15 #[] w fun e w' => e = .returned (.bool true) ∧ Below w.heap.size w w' := by
  have HL := Lib.hid hL
  clear hL
  have HP := Lib.hid (plan_any w)
  go_enter Tryz.func15, Tryz.ntmps15
  go_wp2_with fail
  refine HP.out.mono ?_
  rintro e w2 ⟨⟨a, rfl, hp⟩, hb⟩
  have B2 := Lib.hid hb
  have HS := Lib.hid (sends_any planL a 3 8 0 4 4 w2 hp planL_ok (by decide) (by decide) (by decide) (by decide) planL_may (HL.out.below B2.out))
  clear hp hb HP
  go_wp2_with fail
  refine HS.out.mono ?_
  rintro e w3 ⟨⟨v, rfl, hv⟩, hb⟩
  rw [planL_sends] at hv
  obtain ⟨sa, sc, rfl, _, _, hn⟩ := nums_of_own (l := [3, 0, 2, 0]) hv
  have HN := Lib.hid hn
  have B3 : Hid (Below w.heap.size w w3) := B2.out.trans (hb.mono B2.out.size)
  have HP := Lib.hid (plan_any w3)
  clear hv hn hb HS B2
  go_wp2_with fail
  refine HP.out.mono ?_
  rintro e w4 ⟨⟨a4, rfl, hp⟩, hb⟩
  have HD := Lib.hid (due_any planL a4 3 8 2 4 w4 (by decide) hp)
  rw [planL_due] at HD
  have B4 : Hid (Below w.heap.size w w4) := B3.out.trans (hb.mono B3.out.size)
  have N4 : Hid (NumsAt w4 sa [3, 0, 2, 0]) := SliceN.below HN.out hb
  clear hp hb HP HN B3
  go_wp2_with fail
  refine HD.out.mono ?_
  rintro e w5 ⟨rfl, hb⟩
  have B5 : Hid (Below w.heap.size w w5) := B4.out.trans (hb.mono B4.out.size)
  have N5 : Hid (NumsAt w5 sa [3, 0, 2, 0]) := SliceN.below N4.out hb
  clear hb HD B4 N4
  obtain ⟨w6, hw6⟩ : ∃ x, x = w5.alloc (.cells #[.int .u32 3, .int .u32 0, .int .u32 2, .int .u32 0] 22) := ⟨_, rfl⟩
  have b6 : Below w5.heap.size w5 w6 := by rw [hw6]; exact alloc_below _ _
  have B6 : Hid (Below w.heap.size w w6) := B5.out.trans (b6.mono B5.out.size)
  have N6 : Hid (NumsAt w6 sa [3, 0, 2, 0]) := SliceN.below N5.out b6
  have K6 : w6.heap[w5.heap.size]? = some (.cells #[.int .u32 3, .int .u32 0, .int .u32 2, .int .u32 0] 22 (0, 0)) := by rw [hw6]; exact heap_alloc_new _ _
  have HI := Lib.hid (is_any [3, 0, 2, 0] [3, 0, 2, 0] sa (some ⟨w5.heap.size, 0, none⟩) sc 4 w6 N6.out (.inr ⟨_, 0, rfl, heap_lt K6, fun i hi j hj => by
    obtain rfl : j = 0 := by omega
    match i, hi with
    | 0, _ => exact cell_row (j := 0) K6 rfl
    | 1, _ => exact cell_row (j := 1) K6 rfl
    | 2, _ => exact cell_row (j := 2) K6 rfl
    | 3, _ => exact cell_row (j := 3) K6 rfl
    | n + 4, h => exact absurd h (by simp)⟩) (by decide) (by decide))
  rw [show decide (([3, 0, 2, 0] : List Nat) = [3, 0, 2, 0]) = true from rfl] at HI
  have HW6 := Lib.hid hw6
  clear hw6 b6 K6 N5 B5 N6
  go_wp2_with fail
  rw [← HW6.out]
  clear HW6
  refine HI.out.mono ?_
  rintro e w7 ⟨rfl, rfl⟩
  have HP := Lib.hid (plan_any w7)
  clear HI
  go_wp2_with fail
  refine HP.out.mono ?_
  rintro e w8 ⟨⟨a8, rfl, hp⟩, hb⟩
  have B8 : Hid (Below w.heap.size w w8) := B6.out.trans (hb.mono B6.out.size)
  have HR := Lib.hid (print_any planL a8 3 8 4 w8 hp planL_ok (by decide) (HL.out.below B8.out).tab)
  rw [planL_text] at HR
  clear hp hb HP B6
  go_wp2_with fail
  refine HR.out.mono ?_
  rintro e w9 ⟨rfl, hb⟩
  have B9 : Hid (Below w.heap.size w w9) := B8.out.trans (hb.mono B8.out.size)
  clear hb HR B8
  have t1 : Hid ((planS.toList == [97, 116, 32, 48, 32, 114, 111, 117, 116, 101, 32, 50, 10, 97, 116, 32, 50, 32, 114, 111, 117, 116, 101, 32, 48, 10, 97, 116, 32, 50, 32, 114, 111, 117, 116, 101, 32, 49, 10]) = true) := by (show _ = _; kernel_rfl)
  go_wp2_with fail
  go_ret
  exact ⟨congrArg (fun b => Ending.returned (Value.bool b)) t1.out, B9.out⟩
/-! ### what is sent is what is due -/
theorem snoc_ind {α : Type} {P : List α → Prop} (h0 : P []) (h1 : ∀ l x, P l → P (l ++ [x])) : ∀ l, P l := fun l => by
  have : ∀ r : List α, P r.reverse := fun r => by
    induction r with
    | nil => exact h0
    | cons x r ih => rw [List.reverse_cons]; exact h1 _ _ ih
  have h := this l.reverse
  rwa [List.reverse_reverse] at h
theorem dueK_app (ls r : List PL) (f : Nat) : ∀ k, k ≤ ls.length → dueK (ls ++ r) f k = dueK ls f k
  | 0, _ => rfl
  | k + 1, h => by
    have e : (ls ++ r).getD k pl0 = ls.getD k pl0 := by
      rw [List.getD_eq_getElem?_getD, List.getD_eq_getElem?_getD, List.getElem?_append_left (by omega)]
    unfold dueK
    rw [e, dueK_app ls r f k (by omega)]
theorem sentF_snoc (f : Nat) : ∀ (l : List PL) (acc : Nat) (x : PL), sentF f acc (l ++ [x]) = if x.fr = f then x.ask else sentF f acc l
  | [], acc, x => rfl
  | y :: r, acc, x => by rw [List.cons_append, sentF, sentF, sentF_snoc f r]
theorem dueI_snoc (ls : List PL) (x : PL) (f : Nat) : dueI (ls ++ [x]) f = if x.fr = f then (ls.length : Int) else dueI ls f := by
  unfold dueI
  rw [List.length_append, List.length_singleton, dueK]
  rw [show (ls ++ [x]).getD ls.length pl0 = x by simp [List.getD_eq_getElem?_getD]]
  rw [dueK_app ls [x] f ls.length (Nat.le_refl _)]
theorem sentF_sentN (f : Nat) (ls : List PL) : sentF f 0 ls = sentN ls f := by
  refine snoc_ind (P := fun ls => sentF f 0 ls = sentN ls f) rfl (fun l x ih => ?_) ls
  · skip
    rw [sentF_snoc, ih]
    unfold sentN
    rw [dueI_snoc]
    by_cases e : x.fr = f
    · rw [if_pos e, if_pos e, if_neg (by omega)]
      rw [show ((l.length : Int)).toNat = l.length by omega, show (l ++ [x]).getD l.length pl0 = x by simp [List.getD_eq_getElem?_getD]]
      rfl
    · rw [if_neg e, if_neg e]
      by_cases h : dueI l f < 0
      · rw [if_pos h, if_pos h]
      · have h2 : dueI l f < (l.length : Int) := (dueK_range l f l.length).2
        rw [if_neg h, if_neg h, List.getD_eq_getElem?_getD, List.getD_eq_getElem?_getD, List.getElem?_append_left (by omega)]
theorem dueL_snoc (ls : List PL) (x : PL) (f : Nat) : dueL (ls ++ [x]) f = if x.fr = f then (x.rt, true) else dueL ls f := by
  unfold dueL revF
  rw [List.drop_zero, List.drop_zero, List.filter_append]
  by_cases e : x.fr = f
  · rw [List.filter_cons_of_pos (by simpa using e), List.filter_nil, List.reverse_append, if_pos e]
    simp
  · rw [List.filter_cons_of_neg (by simpa using e), List.filter_nil, List.append_nil, if_neg e]
theorem dueL_sentN (f : Nat) (ls : List PL) : sentF f 0 ls = if (dueL ls f).2 = true then (dueL ls f).1.toNat + 1 else 0 := by
  refine snoc_ind (P := fun ls => sentF f 0 ls = if (dueL ls f).2 = true then (dueL ls f).1.toNat + 1 else 0) rfl (fun l x ih => ?_) ls
  · skip
    rw [sentF_snoc, dueL_snoc]
    by_cases e : x.fr = f
    · rw [if_pos e, if_pos e]; rfl
    · rw [if_neg e, if_neg e, ih]
theorem dueL_range (f : Nat) (ls : List PL) (h : ∀ x ∈ ls, 0 ≤ x.rt ∧ x.rt ≤ 65534) : 0 ≤ (dueL ls f).1 ∧ (dueL ls f).1 ≤ 65534 := by
  refine snoc_ind (P := fun ls => (∀ x ∈ ls, 0 ≤ x.rt ∧ x.rt ≤ 65534) → 0 ≤ (dueL ls f).1 ∧ (dueL ls f).1 ≤ 65534) (fun _ => ⟨Int.le_refl 0, show (0 : Int) ≤ 65534 by decide⟩) (fun l x ih h => ?_) ls h
  rw [dueL_snoc]
  by_cases e : x.fr = f
  · rw [if_pos e]; exact h x (by simp)
  · rw [if_neg e]; exact ih (fun y hy => h y (by simp [hy]))
end Go.Proofs.YtdlpgoackmgdkaaGreatDoor
/- What is read of a plan that comes in. -/
namespace Go.Proofs.YtdlpgoackmgdkaaGreatDoor
open Go.RowKit Go.Shelf
set_option linter.unusedVariables false
set_option linter.unusedSimpArgs false
theorem rd_intCells : Tryz.prog.cellsOf 3 = 1 := by kernel_rfl
theorem rd_u32Cells : Tryz.prog.cellsOf 22 = 1 := by kernel_rfl
theorem rd_lnCells : Tryz.prog.cellsOf 71 = 2 := by kernel_rfl
theorem rd_plCells : Tryz.prog.cellsOf 25 = 3 := by kernel_rfl
theorem rd_u32 {w : World} {cs : List Value} {o : Nat} (h : ReadsC w 22 ((cs.drop o).take (Tryz.prog.cellsOf 22))) : ∃ n : Nat, n < 4294967296 ∧ cs.getD o undef = .int .u32 (n : Int) := by
  rw [rd_u32Cells] at h
  obtain ⟨n, hc, hw⟩ := reads_int1 Tryz.underlying22 h
  obtain ⟨h0, h1⟩ := bounds_u32 hw
  obtain ⟨m, rfl⟩ := Int.eq_ofNat_of_zero_le h0
  exact ⟨m, by omega, one_take hc⟩
theorem rd_i64 {w : World} {cs : List Value} {o : Nat} (h : ReadsC w 3 ((cs.drop o).take (Tryz.prog.cellsOf 3))) : ∃ n : Int, -9223372036854775808 ≤ n ∧ n ≤ 9223372036854775807 ∧ cs.getD o undef = .int .i64 n := by
  rw [rd_intCells] at h
  obtain ⟨n, hc, hw⟩ := reads_int1 Tryz.underlying3 h
  obtain ⟨h0, h1⟩ := bounds_i64 hw
  exact ⟨n, h0, h1, one_take hc⟩
instance : Inhabited PL := ⟨pl0⟩
theorem rd_ln {w : World} {cs : List Value} (h : ReadsC w 71 cs) : ∃ x : PL, x.ok ∧ ∀ j, j < 2 → cs.getD j undef = (plC x).getD j undef := by
  obtain ⟨_, hf⟩ := reads_struct Tryz.underlying71 h
  obtain ⟨p, p0, e0⟩ := rd_u32 (hf 0 _ rfl)
  obtain ⟨q, q0, q1, e1⟩ := rd_i64 (hf 1 _ rfl)
  refine ⟨⟨p, q⟩, ⟨p0, q0, q1⟩, fun j hj => ?_⟩
  match j, hj with
  | 0, _ => exact e0
  | 1, _ => exact e1
theorem rd_shape {w : World} {t e : TypeId} {cs : List Value} (ht : Tryz.prog.underlying t = some (.slice e)) (h : ReadsC w t cs) : ∃ a n c, cs = [.slice a n c] := by
  obtain ⟨H, enc, m, y, hf⟩ := h
  rcases Go.Deep.open_slice ht hf with ⟨hcs, _⟩ | ⟨x, l, c, m', n, D, Pl, hcs, _⟩
  · exact ⟨none, 0, 0, hcs⟩
  · exact ⟨_, _, _, hcs⟩
set_option maxRecDepth 10000 in
theorem rd_lns {w : World} {v : Value} (h : ReadsC w 23 [v]) : ∃ (a : Option Addr) (c : Nat) (ls : List PL), v = .slice a ls.length c ∧ ls.length ≤ c ∧ c ≤ maxLen ∧ PlsAt w a ls ∧ ∀ i, i < ls.length → (ls.getD i pl0).ok := by
  obtain ⟨a, n, c, e⟩ := rd_shape Tryz.underlying23 h
  cases e
  obtain ⟨hl, hm, C, hs, hr⟩ := reads_sliceN Tryz.underlying23 rd_lnCells (by omega) h
  obtain ⟨D, hD⟩ := choose_nat (α := PL) (p := fun i d => d.ok ∧ ∀ j, j < 2 → (C i).getD j undef = (plC d).getD j undef) (fun i hi => rd_ln (hr i hi).2)
  obtain ⟨l, hll, hle⟩ := list_of n D pl0
  subst hll
  refine ⟨a, c, l, rfl, hl, hm, hs.congr fun i hi j hj => ?_, fun i hi => by rw [hle i hi]; exact (hD i hi).1⟩
  unfold plV
  rw [hle i hi]
  exact (hD i hi).2 j hj
set_option maxRecDepth 10000 in
theorem rd_plan {w : World} {v : Value} (h : ReadsC w 25 v.cells.toList ∧ Value.okWide Tryz.prog w .any 0 25 v) :
    ∃ (base : Nat) (port : Int) (a : Option Addr) (c : Nat) (ls : List PL), v = .agg #[.int .u32 (base : Int), .int .i64 port, .slice a ls.length c] ∧ base < 4294967296 ∧ (-9223372036854775808 ≤ port ∧ port ≤ 9223372036854775807) ∧ ls.length ≤ c ∧ c ≤ maxLen ∧ PlsAt w a ls ∧ ∀ i, i < ls.length → (ls.getD i pl0).ok := by
  obtain ⟨cs, rfl, _⟩ := Go.WideShapes.okWide_struct Tryz.underlying25 h.2
  obtain ⟨hl, hf⟩ := reads_struct Tryz.underlying25 h.1
  rw [rd_plCells] at hl
  generalize hcs : (Value.agg cs).cells.toList = l at *
  have hcl : cs.toList = l := hcs
  obtain ⟨b, hb, e0⟩ := rd_u32 (hf 0 _ rfl)
  obtain ⟨p, p0, p1, e1⟩ := rd_i64 (hf 1 _ rfl)
  have h3 := hf 2 _ rfl
  match l, hl with
  | [x, y, z], _ =>
    have h4 : ReadsC w 23 [z] := h3
    obtain ⟨a, c, ls, rfl, k1, k2, k3, k4⟩ := rd_lns h4
    have e0' : x = .int .u32 (b : Int) := e0
    have e1' : y = .int .i64 p := e1
    subst e0' e1'
    refine ⟨b, p, a, c, ls, ?_, hb, ⟨p0, p1⟩, k1, k2, k3, k4⟩
    congr 1
    apply Array.toList_inj.1
    rw [hcl]
end Go.Proofs.YtdlpgoackmgdkaaGreatDoor
