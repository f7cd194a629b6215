/- ArsBack: what is printed is parsed as the plan; what is parsed is printed as the text. -/
import Derived.Test.YtdlpgoackmgdkaaGreatDoorArPa
import Derived.BigQuiet
namespace Go.Proofs.YtdlpgoackmgdkaaGreatDoor
open Go.RowKit Go.Shelf
set_option linter.unusedVariables false
set_option linter.unusedSimpArgs false
def badR (x : PL) : Bool := decide (x.rt < 0) || decide (65535 < x.rt)
theorem bad_any (x : PL) (w : World) : Calls Tryz.prog 42 #[.agg #[.int .u32 (x.fr : Int), .int .i64 x.rt]] w fun e w' => e = .returned (.bool (badR x)) ∧ Below w.heap.size w w' := by
  obtain ⟨fr, rt⟩ := x
  have HB : Hid (badR ⟨fr, rt⟩ = (decide (rt < 0) || decide (65535 < rt))) := rfl
  generalize badR ⟨fr, rt⟩ = res at *
  have B1 : Hid (Below w.heap.size w (w.alloc (.cells #[.int .u32 (fr : Int), .int .i64 rt] 71))) := alloc_below _ _
  by_cases h1 : rt < 0
  · have t1 : decide (rt < 0) = true := decide_eq_true h1
    have HF : Hid (res = true) := by show _ = _; rw [HB.out, t1]; rfl
    go_enter Tryz.func42, Tryz.ntmps42
    go_wp2_with fail
    go_ret
    exact ⟨by rw [HF.out]; rfl, B1.out⟩
  have t1 : decide (rt < 0) = false := decide_eq_false h1
  cases h2 : decide (65535 < rt)
  all_goals
    have HF := HB.out
    rw [t1, h2] at HF
    have HF := Lib.hid HF
    clear HB h1
    go_enter Tryz.func42, Tryz.ntmps42
    go_wp2_with fail
    go_ret
    exact ⟨by rw [HF.out]; rfl, B1.out⟩
set_option maxHeartbeats 4000000 in
theorem lindex_any (ls : List PL) (a : Option Addr) (c : Nat) (w : World) (hA : PlsAt w a ls) (hm : ls.length ≤ 1000000) :
    Calls Tryz.prog 75 #[.slice a ls.length c, .func (.func 42) #[] #[]] w fun e w' => ((e = .returned (.int .i64 (-1)) ∧ ∀ j, j < ls.length → badR (ls.getD j pl0) = false) ∨ ∃ k : Nat, e = .returned (.int .i64 (k : Int)) ∧ k < ls.length ∧ badR (ls.getD k pl0) = true) ∧ Below w.heap.size w w' := by
  have H := Lib.hid hA
  obtain ⟨n, hn⟩ : ∃ n, n = ls.length := ⟨_, rfl⟩
  rw [← hn] at hm ⊢
  have HN := Lib.hid hn
  have eg := enters_of (P := Tryz.prog) Tryz.func42 (by kernel_rfl) rfl
  clear hA hn
  go_enter Tryz.func75, Tryz.ntmps75
  go_wp2_with fail
  go_loopw [8] (fun i wr => ∃ k : Nat, k ≤ n ∧ i = .int .i64 (k : Int) ∧ Hid (∀ j, j < k → badR (ls.getD j pl0) = false) ∧ Hid (Below w.heap.size w wr)) (fun i _ => n - (intOf i).toNat)
  case atStart => exact ⟨0, Nat.zero_le _, rfl, fun j hj => absurd hj (by omega), Below.refl _ _⟩
  case round =>
    obtain ⟨k, hk, rfl, NO, B1⟩ := hrel
    rcases Nat.lt_or_ge k n with hk2 | hk2
    case inr =>
      obtain rfl : k = n := by omega
      have t2 : decide ((k : Int) < (k : Int)) = false := by simp
      go_wp2_with fail
      go_ret
      exact ⟨.inl ⟨rfl, NO.out⟩, B1.out⟩
    have t2 : decide ((k : Int) < (n : Int)) = true := decide_eq_true (by omega)
    have i1 : (k : Int) < (n : Int) := by omega
    obtain ⟨b, off, rfl, hb, hc⟩ := H.out.at (by rw [← HN.out]; omega)
    have a0 : wr.cell? ⟨b, off + k * 2, none⟩ = some (.int .u32 ((ls.getD k pl0).fr : Int)) := (B1.out.cell hb).trans (hc k (by rw [← HN.out]; omega) 0 (by omega))
    have a1 : wr.cell? ⟨b, off + k * 2 + 1, none⟩ = some (.int .i64 (ls.getD k pl0).rt) := (B1.out.cell hb).trans (hc k (by rw [← HN.out]; omega) 1 (by omega))
    have HC := Lib.hid (bad_any (ls.getD k pl0) wr)
    have HYES : Hid (badR (ls.getD k pl0) = true → ∃ q : Nat, Ending.returned (Value.int .i64 (k : Int)) = .returned (.int .i64 (q : Int)) ∧ q < n ∧ badR (ls.getD q pl0) = true) := fun h => ⟨k, rfl, hk2, h⟩
    have HNX : Hid (badR (ls.getD k pl0) = false → ∀ j, j < k + 1 → badR (ls.getD j pl0) = false) := fun h j hj => by
      rcases Nat.lt_succ_iff_lt_or_eq.1 hj with h1 | rfl
      · exact NO.out j h1
      · exact h
    clear hc NO
    cases hx : badR (ls.getD k pl0)
    case true =>
      have HR := Lib.hid (HYES.out hx)
      rw [hx] at HC
      clear hx HYES HNX
      generalize ls.getD k pl0 = x at *
      go_wp2_with fail
      refine HC.out.mono ?_
      rintro e w2 ⟨rfl, hb2⟩
      have B2 := Lib.hid (B1.out.trans (hb2.mono B1.out.size))
      clear hb2 a0 a1 HC
      go_wp2_with fail
      go_ret
      exact ⟨.inr HR.out, B2.out⟩
    case false =>
      have HR := Lib.hid (HNX.out hx)
      rw [hx] at HC
      clear hx HYES HNX
      generalize ls.getD k pl0 = x at *
      go_wp2_with fail
      refine HC.out.mono ?_
      rintro e w2 ⟨rfl, hb2⟩
      have B2 := Lib.hid (B1.out.trans (hb2.mono B1.out.size))
      clear hb2 a0 a1 HC
      go_wp2_with fail
      refine ⟨⟨k + 1, by omega, by go_num, HR, B2⟩, ?_⟩
      simp [intOf]; omega
def allGood (ls : List PL) : Bool := ls.all fun x => !badR x
theorem lcontains_any (ls : List PL) (a : Option Addr) (c : Nat) (w : World) (hA : PlsAt w a ls) (hm : ls.length ≤ 1000000) :
    Calls Tryz.prog 41 #[.slice a ls.length c, .func (.func 42) #[] #[]] w fun e w' => e = .returned (.bool (!allGood ls)) ∧ Below w.heap.size w w' := by
  have HI := Lib.hid (lindex_any ls a c w hA hm)
  have HY : Hid ((∀ j, j < ls.length → badR (ls.getD j pl0) = false) → (!allGood ls) = false) := fun h => by
    unfold allGood
    rw [Bool.not_eq_false', List.all_eq_true]
    intro x hx
    obtain ⟨i, hi, rfl⟩ := List.mem_iff_getElem.1 hx
    have := h i hi
    rw [List.getD_eq_getElem?_getD, List.getElem?_eq_getElem hi] at this
    simpa using this
  have HN : Hid (∀ k, k < ls.length → badR (ls.getD k pl0) = true → (!allGood ls) = true) := fun k hk h => by
    unfold allGood
    rw [Bool.not_eq_true', List.all_eq_false]
    refine ⟨ls[k], List.getElem_mem hk, ?_⟩
    rw [List.getD_eq_getElem?_getD, List.getElem?_eq_getElem hk] at h
    have h : badR ls[k] = true := h
    rw [h]; decide
  generalize (!allGood ls) = res at *
  clear hA
  go_enter Tryz.func41, Tryz.ntmps41
  go_wp2_with fail
  refine HI.out.mono ?_
  rintro e w2 ⟨⟨rfl, h⟩ | ⟨k, rfl, hk, h⟩, hb⟩
  · have HF := Lib.hid (HY.out h)
    have HB := Lib.hid hb
    clear hb h HY HN HI
    go_wp2_with fail
    go_ret
    exact ⟨by rw [HF.out]; rfl, HB.out⟩
  · have HF := Lib.hid (HN.out k hk h)
    have HB := Lib.hid hb
    have t1 : decide ((0 : Int) ≤ (k : Int)) = true := decide_eq_true (by omega)
    clear hb h HY HN HI
    go_wp2_with fail
    go_ret
    exact ⟨by rw [HF.out]; rfl, HB.out⟩
set_option maxHeartbeats 4000000 in
theorem lequal_same (ls : List PL) (a b : Option Addr) (c d : Nat) (w : World) (hA : PlsAt w a ls) (hB : PlsAt w b ls) (hm : ls.length ≤ 1000000) :
    Calls Tryz.prog 43 #[.slice a ls.length c, .slice b ls.length d] w fun e w' => e = .returned (.bool true) ∧ Below w.heap.size w w' := by
  have HA := Lib.hid hA; have HB := Lib.hid hB
  obtain ⟨n, hn⟩ : ∃ n, n = ls.length := ⟨_, rfl⟩
  rw [← hn] at hm ⊢
  have HN := Lib.hid hn
  clear hA hB hn
  go_enter Tryz.func43, Tryz.ntmps43
  go_wp2_with fail
  go_loopw [13] (fun i wr => ∃ k : Nat, k ≤ n ∧ i = .int .i64 (k : Int) ∧ Hid (Below w.heap.size w wr)) (fun i _ => n - (intOf i).toNat)
  case atStart => exact ⟨0, Nat.zero_le _, rfl, Below.refl _ _⟩
  case round =>
    obtain ⟨k, hk, rfl, BB⟩ := hrel
    rcases Nat.lt_or_ge k n with hk2 | hk2
    case inr =>
      obtain rfl : k = n := by omega
      have t2 : decide ((k : Int) < (k : Int)) = false := by simp
      go_wp2_with fail
      go_ret
      exact ⟨rfl, BB.out⟩
    have t2 : decide ((k : Int) < (n : Int)) = true := decide_eq_true (by omega)
    have i1 : (k : Int) < (n : Int) := by omega
    obtain ⟨ab, ao, rfl, hab, hac⟩ := HA.out.at (by rw [← HN.out]; omega)
    obtain ⟨bb, bo, rfl, hbb, hbc⟩ := HB.out.at (by rw [← HN.out]; omega)
    have a0 : wr.cell? ⟨ab, ao + k * 2, none⟩ = some (.int .u32 ((ls.getD k pl0).fr : Int)) := (BB.out.cell hab).trans (hac k (by rw [← HN.out]; omega) 0 (by omega))
    have a1 : wr.cell? ⟨ab, ao + k * 2 + 1, none⟩ = some (.int .i64 (ls.getD k pl0).rt) := (BB.out.cell hab).trans (hac k (by rw [← HN.out]; omega) 1 (by omega))
    have b0 : wr.cell? ⟨bb, bo + k * 2, none⟩ = some (.int .u32 ((ls.getD k pl0).fr : Int)) := (BB.out.cell hbb).trans (hbc k (by rw [← HN.out]; omega) 0 (by omega))
    have b1 : wr.cell? ⟨bb, bo + k * 2 + 1, none⟩ = some (.int .i64 (ls.getD k pl0).rt) := (BB.out.cell hbb).trans (hbc k (by rw [← HN.out]; omega) 1 (by omega))
    clear hac hbc
    generalize ls.getD k pl0 = x at *
    go_upto_region 6 with fail
    go_quiet (fail)
    go_wp2_with fail
    refine ⟨⟨k + 1, by omega, by go_num, ⟨BB.out.os, BB.out.tape, BB.out.output, BB.out.size, BB.out.block⟩⟩, ?_⟩
    simp [intOf]; omega
theorem good_of {ls : List PL} (hok : ∀ i, i < ls.length → (ls.getD i pl0).ok) (h : allGood ls = true) : ∀ x ∈ ls, x.good := fun x hx => by
  obtain ⟨i, hi, rfl⟩ := List.mem_iff_getElem.1 hx
  have h1 := hok i hi
  rw [List.getD_eq_getElem?_getD, List.getElem?_eq_getElem hi] at h1
  have h1 : ls[i].ok := h1
  have h2 := List.all_eq_true.1 h ls[i] (List.getElem_mem hi)
  unfold badR at h2
  simp at h2
  exact ⟨by have := h1.fr; omega, by omega, by omega⟩
theorem lok_of {L : List PL} (h : ∀ x ∈ L, x.good) : ∀ i, i < L.length → (L.getD i pl0).ok := fun i hi => by
  rw [List.getD_eq_getElem?_getD, List.getElem?_eq_getElem hi]
  obtain ⟨h1, h2, h3⟩ := h L[i] (List.getElem_mem hi)
  exact ⟨by show L[i].fr < _; omega, by show _ ≤ L[i].rt; omega, by show L[i].rt ≤ _; omega⟩
set_option maxRecDepth 100000 in
set_option maxHeartbeats 8000000 in
theorem backw_any (ls : List PL) (a : Option Addr) (c base : Nat) (port : Int) (s : ByteArray) (w : World) (hA : PlsAt w a ls) (hok : ∀ i, i < ls.length → (ls.getD i pl0).ok) (hm : ls.length ≤ maxLen) (hb0 : base < 4294967296) (hs : s.size ≤ maxLen) (hL : LibW w) :
    Calls Tryz.prog 12 #[.agg #[.int .u32 (base : Int), .int .i64 port, .slice a ls.length c], .string s] w fun e w' => e = .returned (.bool true) ∧ Below w.heap.size w w' := by
  have HL := Lib.hid hL
  have HA := Lib.hid hA
  have HOK := Lib.hid hok
  obtain ⟨w1, hw1⟩ : ∃ x, x = w.alloc (.cells #[.int .u32 (base : Int), .int .i64 port, .slice a ls.length c] 25) := ⟨_, rfl⟩
  have B2 : Hid (Below w.heap.size w w1) := by rw [hw1]; exact alloc_below _ _
  have K1 : Hid (w1.heap[w.heap.size]? = some (.cells #[.int .u32 (base : Int), .int .i64 port, .slice a ls.length c] 25 (0, 0))) := by rw [hw1]; exact heap_alloc_new _ _
  obtain ⟨n, hn⟩ : ∃ n, n = ls.length := ⟨_, rfl⟩
  obtain ⟨g, hg⟩ : ∃ g, g = w.heap.size := ⟨_, rfl⟩
  have HW1 := Lib.hid hw1
  rw [← hn] at HW1 K1 hm ⊢
  rw [← hg] at K1
  have HN := Lib.hid hn
  have HG := Lib.hid hg
  unfold maxLen at hm hs
  clear hL hA hok hw1 hn hg
  have q0 := cell_row (j := 0) K1.out rfl
  have q1 := cell_row (j := 1) K1.out rfl
  have q2 := cell_row (j := 2) K1.out rfl
  go_enter Tryz.func12, Tryz.ntmps12
  go_upto_region 1 with fail
  rw [← HW1.out, ← HG.out]
  clear HW1
  by_cases h6 : n ≤ 600
  case neg =>
    have t1 : decide (600 < (n : Int)) = true := decide_eq_true (by omega)
    have HWK := Lib.hid (works_any w1 (HL.out.below B2.out))
    go_wp2_with fail
    refine HWK.out.mono ?_
    rintro e w9 ⟨rfl, hb9⟩
    have B9 : Hid (Below w.heap.size w w9) := B2.out.trans (hb9.mono B2.out.size)
    clear HWK hb9
    go_wp2_with fail
    go_ret
    exact ⟨rfl, B9.out⟩
  have t1 : decide (600 < (n : Int)) = false := decide_eq_false (by omega)
  by_cases h7 : s.size ≤ 20000
  case neg =>
    have t2 : decide (20000 < (s.size : Int)) = true := decide_eq_true (by omega)
    have HWK := Lib.hid (works_any w1 (HL.out.below B2.out))
    go_wp2_with fail
    refine HWK.out.mono ?_
    rintro e w9 ⟨rfl, hb9⟩
    have B9 : Hid (Below w.heap.size w w9) := B2.out.trans (hb9.mono B2.out.size)
    clear HWK hb9
    go_wp2_with fail
    go_ret
    exact ⟨rfl, B9.out⟩
  have t2 : decide (20000 < (s.size : Int)) = false := decide_eq_false (by omega)
  have HP := Lib.hid (print_any ls a c base port w1 (HA.out.below B2.out) HOK.out (by rw [← HN.out]; omega) (HL.out.below B2.out).tab)
  rw [← HN.out] at HP
  have HTD : Hid ((bytesOf (printT ls)).data.toList = printT ls) := bytesOf_data _
  have hts : (bytesOf (printT ls)).size ≤ 60 * n := by
    have h1 : (bytesOf (printT ls)).size = (printT ls).length := by unfold bytesOf; show (printT ls).toArray.size = _; simp
    rw [h1, HN.out]
    exact printT_len ls (fun x hx => by
      obtain ⟨i, hi, rfl⟩ := List.mem_iff_getElem.1 hx
      have := HOK.out i hi
      rw [List.getD_eq_getElem?_getD, List.getElem?_eq_getElem hi] at this
      exact this)
  generalize bytesOf (printT ls) = tb at *
  go_wp2_with fail
  refine HP.out.mono ?_
  rintro e w2 ⟨rfl, hb2⟩
  have B3 : Hid (Below w.heap.size w w2) := B2.out.trans (hb2.mono B2.out.size)
  have K2 := Lib.hid (kept K1.out hb2)
  have HCT := Lib.hid (lcontains_any ls a c w2 (HA.out.below B3.out) (by rw [← HN.out]; omega))
  rw [← HN.out] at HCT
  clear q0 q1 q2 hb2 B2 HP K1
  have q0 := cell_row (j := 0) K2.out rfl
  have q1 := cell_row (j := 1) K2.out rfl
  have q2 := cell_row (j := 2) K2.out rfl
  have lg := heap_lt K2.out
  cases hag : allGood ls
  case false =>
    rw [hag] at HCT
    clear hag
    go_wp2_with fail
    refine HCT.out.mono ?_
    rintro e w3 ⟨rfl, hb3⟩
    have B2 : Hid (Below w.heap.size w w3) := B3.out.trans (hb3.mono B3.out.size)
    clear hb3 HCT K2 q0 q1 q2 lg B3
    have HPA := Lib.hid (aparse_any 0 0 s w3 (by omega) (HL.out.below B2.out))
    go_wp2_with fail
    refine HPA.out.mono ?_
    rintro e w20 ⟨h20, hb20⟩
    have B20 : Hid (Below w.heap.size w w20) := B2.out.trans (hb20.mono B2.out.size)
    unfold ArsP at h20
    rw [if_neg (by omega)] at h20
    obtain ⟨M, r, hpr, hml, ⟨rfl, a20, c20, rfl, hp20⟩ | ⟨hr, rfl⟩⟩ := h20
    case inl =>
      have HPR := Lib.hid hpr
      have HGM := Lib.hid hpr.good
      obtain ⟨w21, hw21⟩ : ∃ x, x = w20.alloc (.cells #[.int .u32 0, .int .i64 0, .slice a20 M.length c20] 25) := ⟨_, rfl⟩
      have b21 : Below w20.heap.size w20 w21 := by rw [hw21]; exact alloc_below _ _
      have K21 : Hid (w21.heap[w20.heap.size]? = some (.cells #[.int .u32 0, .int .i64 0, .slice a20 M.length c20] 25 (0, 0))) := by rw [hw21]; exact heap_alloc_new _ _
      have B21 : Hid (Below w.heap.size w w21) := B20.out.trans (b21.mono B20.out.size)
      have HPT := Lib.hid (print_any M a20 c20 0 0 w21 (hp20.below b21) (lok_of hpr.good) (by omega) (HL.out.below B21.out).tab)
      rw [show bytesOf (printT M) = s by have h := hpr.text; rw [List.append_nil] at h; rw [← h]; exact bytesOf_of s] at HPT
      have HW21 := Lib.hid hw21
      clear hw21 b21 hp20 hpr hb20 HPA
      go_upto_region 9 with fail
      rw [← HW21.out]
      clear HW21
      generalize w20.heap.size = g20 at *
      generalize M.length = nm at *
      have q0 := cell_row (j := 0) K21.out rfl
      have q1 := cell_row (j := 1) K21.out rfl
      have q2 := cell_row (j := 2) K21.out rfl
      go_wp2_with fail
      refine HPT.out.mono ?_
      rintro e w22 ⟨rfl, hb22⟩
      have B22 : Hid (Below w.heap.size w w22) := B21.out.trans (hb22.mono B21.out.size)
      have te : (s.toList == s.toList) = true := beq_self_eq_true _
      clear B2 hb22 HPT q0 q1 q2 K21
      have B2 := Lib.hid B22.out
      have HWK := Lib.hid (works_any w22 (HL.out.below B2.out))
      go_wp2_with fail
      refine HWK.out.mono ?_
      rintro e w9 ⟨rfl, hb9⟩
      have B9 : Hid (Below w.heap.size w w9) := B2.out.trans (hb9.mono B2.out.size)
      clear HWK hb9
      go_wp2_with fail
      go_ret
      exact ⟨rfl, B9.out⟩
    case inr =>
      obtain ⟨w21, hw21⟩ : ∃ x, x = w20.alloc (.cells #[.int .u32 0, .int .i64 0, .slice none 0 0] 25) := ⟨_, rfl⟩
      have b21 : Below w20.heap.size w20 w21 := by rw [hw21]; exact alloc_below _ _
      have B21 : Hid (Below w.heap.size w w21) := B20.out.trans (b21.mono B20.out.size)
      have HW21 := Lib.hid hw21
      clear hw21 b21 hpr hb20 HPA hr
      go_upto_region 9 with fail
      rw [← HW21.out]
      clear HW21 B2
      have B2 := Lib.hid B21.out
      have HWK := Lib.hid (works_any w21 (HL.out.below B2.out))
      go_wp2_with fail
      refine HWK.out.mono ?_
      rintro e w9 ⟨rfl, hb9⟩
      have B9 : Hid (Below w.heap.size w w9) := B2.out.trans (hb9.mono B2.out.size)
      clear HWK hb9
      go_wp2_with fail
      go_ret
      exact ⟨rfl, B9.out⟩
  rw [hag] at HCT
  have HGD := Lib.hid (good_of HOK.out hag)
  clear hag
  by_cases h8 : tb.size ≤ 20000
  case neg =>
    have t3 : decide ((tb.size : Int) ≤ 20000) = false := decide_eq_false (by omega)
    go_wp2_with fail
    refine HCT.out.mono ?_
    rintro e w3 ⟨rfl, hb3⟩
    have B2 : Hid (Below w.heap.size w w3) := B3.out.trans (hb3.mono B3.out.size)
    clear hb3 HCT K2 q0 q1 q2 lg B3
    have HPA := Lib.hid (aparse_any 0 0 s w3 (by omega) (HL.out.below B2.out))
    go_wp2_with fail
    refine HPA.out.mono ?_
    rintro e w20 ⟨h20, hb20⟩
    have B20 : Hid (Below w.heap.size w w20) := B2.out.trans (hb20.mono B2.out.size)
    unfold ArsP at h20
    rw [if_neg (by omega)] at h20
    obtain ⟨M, r, hpr, hml, ⟨rfl, a20, c20, rfl, hp20⟩ | ⟨hr, rfl⟩⟩ := h20
    case inl =>
      have HPR := Lib.hid hpr
      have HGM := Lib.hid hpr.good
      obtain ⟨w21, hw21⟩ : ∃ x, x = w20.alloc (.cells #[.int .u32 0, .int .i64 0, .slice a20 M.length c20] 25) := ⟨_, rfl⟩
      have b21 : Below w20.heap.size w20 w21 := by rw [hw21]; exact alloc_below _ _
      have K21 : Hid (w21.heap[w20.heap.size]? = some (.cells #[.int .u32 0, .int .i64 0, .slice a20 M.length c20] 25 (0, 0))) := by rw [hw21]; exact heap_alloc_new _ _
      have B21 : Hid (Below w.heap.size w w21) := B20.out.trans (b21.mono B20.out.size)
      have HPT := Lib.hid (print_any M a20 c20 0 0 w21 (hp20.below b21) (lok_of hpr.good) (by omega) (HL.out.below B21.out).tab)
      rw [show bytesOf (printT M) = s by have h := hpr.text; rw [List.append_nil] at h; rw [← h]; exact bytesOf_of s] at HPT
      have HW21 := Lib.hid hw21
      clear hw21 b21 hp20 hpr hb20 HPA
      go_upto_region 9 with fail
      rw [← HW21.out]
      clear HW21
      generalize w20.heap.size = g20 at *
      generalize M.length = nm at *
      have q0 := cell_row (j := 0) K21.out rfl
      have q1 := cell_row (j := 1) K21.out rfl
      have q2 := cell_row (j := 2) K21.out rfl
      go_wp2_with fail
      refine HPT.out.mono ?_
      rintro e w22 ⟨rfl, hb22⟩
      have B22 : Hid (Below w.heap.size w w22) := B21.out.trans (hb22.mono B21.out.size)
      have te : (s.toList == s.toList) = true := beq_self_eq_true _
      clear B2 hb22 HPT q0 q1 q2 K21
      have B2 := Lib.hid B22.out
      have HWK := Lib.hid (works_any w22 (HL.out.below B2.out))
      go_wp2_with fail
      refine HWK.out.mono ?_
      rintro e w9 ⟨rfl, hb9⟩
      have B9 : Hid (Below w.heap.size w w9) := B2.out.trans (hb9.mono B2.out.size)
      clear HWK hb9
      go_wp2_with fail
      go_ret
      exact ⟨rfl, B9.out⟩
    case inr =>
      obtain ⟨w21, hw21⟩ : ∃ x, x = w20.alloc (.cells #[.int .u32 0, .int .i64 0, .slice none 0 0] 25) := ⟨_, rfl⟩
      have b21 : Below w20.heap.size w20 w21 := by rw [hw21]; exact alloc_below _ _
      have B21 : Hid (Below w.heap.size w w21) := B20.out.trans (b21.mono B20.out.size)
      have HW21 := Lib.hid hw21
      clear hw21 b21 hpr hb20 HPA hr
      go_upto_region 9 with fail
      rw [← HW21.out]
      clear HW21 B2
      have B2 := Lib.hid B21.out
      have HWK := Lib.hid (works_any w21 (HL.out.below B2.out))
      go_wp2_with fail
      refine HWK.out.mono ?_
      rintro e w9 ⟨rfl, hb9⟩
      have B9 : Hid (Below w.heap.size w w9) := B2.out.trans (hb9.mono B2.out.size)
      clear HWK hb9
      go_wp2_with fail
      go_ret
      exact ⟨rfl, B9.out⟩
  have t3 : decide ((tb.size : Int) ≤ 20000) = true := decide_eq_true (by omega)
  go_wp2_with fail
  refine HCT.out.mono ?_
  rintro e w3 ⟨rfl, hb3⟩
  have B4 : Hid (Below w.heap.size w w3) := B3.out.trans (hb3.mono B3.out.size)
  have K3 := Lib.hid (kept K2.out hb3)
  have HPA := Lib.hid (aparse_any base port tb w3 (by omega) (HL.out.below B4.out))
  clear hb3 HCT K2 q0 q1 q2 lg B3
  have q0 := cell_row (j := 0) K3.out rfl
  have q1 := cell_row (j := 1) K3.out rfl
  have q2 := cell_row (j := 2) K3.out rfl
  have lg := heap_lt K3.out
  go_wp2_with fail
  refine HPA.out.mono ?_
  rintro e w4 ⟨h4, hb4⟩
  unfold ArsP at h4
  rw [if_neg (by omega)] at h4
  obtain ⟨M, r, hpr, _, h4⟩ := h4
  rw [HTD.out] at hpr
  obtain ⟨rfl, rfl⟩ := hpr.uniq (par_print HGD.out)
  rcases h4 with ⟨_, a4, c4, rfl, hp4⟩ | ⟨h4, _⟩
  case inr => exact absurd rfl h4
  rw [← HN.out]
  have B5 : Hid (Below w.heap.size w w4) := B4.out.trans (hb4.mono B4.out.size)
  have K4 := Lib.hid (kept K3.out hb4)
  obtain ⟨w5, hw5⟩ : ∃ x, x = w4.alloc (.cells #[.int .u32 (base : Int), .int .i64 port, .slice a4 n c4] 25) := ⟨_, rfl⟩
  have b5 : Below w4.heap.size w4 w5 := by rw [hw5]; exact alloc_below _ _
  have P5 : Hid (w5.heap[w4.heap.size]? = some (.cells #[.int .u32 (base : Int), .int .i64 port, .slice a4 n c4] 25 (0, 0))) := by rw [hw5]; exact heap_alloc_new _ _
  have B6 : Hid (Below w.heap.size w w5) := B5.out.trans (b5.mono B5.out.size)
  have K5 := Lib.hid (kept K4.out b5)
  have HEQ := Lib.hid (lequal_same M a4 a c4 c w5 (hp4.below b5) (HA.out.below B6.out) (by rw [← HN.out]; omega))
  rw [← HN.out] at HEQ
  have HW5 := Lib.hid hw5
  clear hb4 HPA q0 q1 q2 lg hw5 b5 hp4 hpr B4 B5 K3 K4
  go_upto_region 6 with fail
  rw [← HW5.out]
  clear HW5
  generalize w4.heap.size = g4 at *
  have q0 := cell_row (j := 0) K5.out rfl
  have q1 := cell_row (j := 1) K5.out rfl
  have q2 := cell_row (j := 2) K5.out rfl
  have p0 := cell_row (j := 0) P5.out rfl
  have p1 := cell_row (j := 1) P5.out rfl
  have p2 := cell_row (j := 2) P5.out rfl
  go_wp2_with fail
  refine HEQ.out.mono ?_
  rintro e w6 ⟨rfl, hb6⟩
  have B2 : Hid (Below w.heap.size w w6) := B6.out.trans (hb6.mono B6.out.size)
  have K6 := kept K5.out hb6
  have P6 := kept P5.out hb6
  clear q0 q1 q2 p0 p1 p2
  have q0 := cell_row (j := 0) K6 rfl
  have q1 := cell_row (j := 1) K6 rfl
  have p0 := cell_row (j := 0) P6 rfl
  have p1 := cell_row (j := 1) P6 rfl
  clear hb6 HEQ K5 P5 K6 P6 B6
  have HPA := Lib.hid (aparse_any 0 0 s w6 (by omega) (HL.out.below B2.out))
  go_wp2_with fail
  refine HPA.out.mono ?_
  rintro e w20 ⟨h20, hb20⟩
  have B20 : Hid (Below w.heap.size w w20) := B2.out.trans (hb20.mono B2.out.size)
  unfold ArsP at h20
  rw [if_neg (by omega)] at h20
  obtain ⟨M, r, hpr, hml, ⟨rfl, a20, c20, rfl, hp20⟩ | ⟨hr, rfl⟩⟩ := h20
  case inl =>
    have HPR := Lib.hid hpr
    have HGM := Lib.hid hpr.good
    obtain ⟨w21, hw21⟩ : ∃ x, x = w20.alloc (.cells #[.int .u32 0, .int .i64 0, .slice a20 M.length c20] 25) := ⟨_, rfl⟩
    have b21 : Below w20.heap.size w20 w21 := by rw [hw21]; exact alloc_below _ _
    have K21 : Hid (w21.heap[w20.heap.size]? = some (.cells #[.int .u32 0, .int .i64 0, .slice a20 M.length c20] 25 (0, 0))) := by rw [hw21]; exact heap_alloc_new _ _
    have B21 : Hid (Below w.heap.size w w21) := B20.out.trans (b21.mono B20.out.size)
    have HPT := Lib.hid (print_any M a20 c20 0 0 w21 (hp20.below b21) (lok_of hpr.good) (by omega) (HL.out.below B21.out).tab)
    rw [show bytesOf (printT M) = s by have h := hpr.text; rw [List.append_nil] at h; rw [← h]; exact bytesOf_of s] at HPT
    have HW21 := Lib.hid hw21
    clear hw21 b21 hp20 hpr hb20 HPA
    go_upto_region 9 with fail
    rw [← HW21.out]
    clear HW21
    generalize w20.heap.size = g20 at *
    generalize M.length = nm at *
    have q0 := cell_row (j := 0) K21.out rfl
    have q1 := cell_row (j := 1) K21.out rfl
    have q2 := cell_row (j := 2) K21.out rfl
    go_wp2_with fail
    refine HPT.out.mono ?_
    rintro e w22 ⟨rfl, hb22⟩
    have B22 : Hid (Below w.heap.size w w22) := B21.out.trans (hb22.mono B21.out.size)
    have te : (s.toList == s.toList) = true := beq_self_eq_true _
    clear B2 hb22 HPT q0 q1 q2 K21
    have B2 := Lib.hid B22.out
    have HWK := Lib.hid (works_any w22 (HL.out.below B2.out))
    go_wp2_with fail
    refine HWK.out.mono ?_
    rintro e w9 ⟨rfl, hb9⟩
    have B9 : Hid (Below w.heap.size w w9) := B2.out.trans (hb9.mono B2.out.size)
    clear HWK hb9
    go_wp2_with fail
    go_ret
    exact ⟨rfl, B9.out⟩
  case inr =>
    obtain ⟨w21, hw21⟩ : ∃ x, x = w20.alloc (.cells #[.int .u32 0, .int .i64 0, .slice none 0 0] 25) := ⟨_, rfl⟩
    have b21 : Below w20.heap.size w20 w21 := by rw [hw21]; exact alloc_below _ _
    have B21 : Hid (Below w.heap.size w w21) := B20.out.trans (b21.mono B20.out.size)
    have HW21 := Lib.hid hw21
    clear hw21 b21 hpr hb20 HPA hr
    go_upto_region 9 with fail
    rw [← HW21.out]
    clear HW21 B2
    have B2 := Lib.hid B21.out
    have HWK := Lib.hid (works_any w21 (HL.out.below B2.out))
    go_wp2_with fail
    refine HWK.out.mono ?_
    rintro e w9 ⟨rfl, hb9⟩
    have B9 : Hid (Below w.heap.size w w9) := B2.out.trans (hb9.mono B2.out.size)
    clear HWK hb9
    go_wp2_with fail
    go_ret
    exact ⟨rfl, B9.out⟩
theorem back_walk (v0 : Value) (a1 : ByteArray) (w : World) (h0 : ReadsC w 25 v0.cells.toList ∧ Value.okWide Tryz.prog w .any 0 25 v0) (h1 : a1.size ≤ maxLen) (hL : LibW w) :
    Calls Tryz.prog 12 #[v0, .string a1] w fun e w' => e = .returned (.bool true) ∧ Below w.heap.size w w' := by
  obtain ⟨base, port, a, c, ls, rfl, hb, _, hc, hcm, hA, hok⟩ := rd_plan h0
  exact backw_any ls a c base port a1 w hA hok (by omega) hb h1 hL
end Go.Proofs.YtdlpgoackmgdkaaGreatDoor
