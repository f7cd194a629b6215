/- ArsSends: what a plan's program sends is what is due, whatever number of frames there were. -/
import Derived.Test.YtdlpgoackmgdkaaGreatDoorArJL
namespace Go.Proofs.YtdlpgoackmgdkaaGreatDoor
open Go.RowKit Go.Shelf
set_option linter.unusedVariables false
set_option linter.unusedSimpArgs false
set_option maxRecDepth 100000 in
set_option maxHeartbeats 4000000 in
theorem sendsw_any (ls : List PL) (a : Option Addr) (c base f m : Nat) (port : Int) (w : World) (hA : PlsAt w a ls) (hok : ∀ i, i < ls.length → (ls.getD i pl0).ok) (hm : ls.length ≤ maxLen) (hb0 : base < 4294967296) (hf : f < 4294967296) (hu : m < 256) (hL : LibW w) :
    Calls Tryz.prog 3 #[.agg #[.int .u32 (base : Int), .int .i64 port, .slice a ls.length c], .int .u32 (f : Int), .int .u8 (m : Int)] w fun e w' => e = .returned (.bool true) ∧ Below w.heap.size w w' := by
  have HL := Lib.hid hL
  have HA := Lib.hid hA
  have HOK := Lib.hid hok
  obtain ⟨w1, hw1⟩ : ∃ x, x = w.alloc (.cells #[.int .u32 (base : Int), .int .i64 port, .slice a ls.length c] 25) := ⟨_, rfl⟩
  have B2 : Hid (Below w.heap.size w w1) := by rw [hw1]; exact alloc_below _ _
  have K1 : Hid (w1.heap[w.heap.size]? = some (.cells #[.int .u32 (base : Int), .int .i64 port, .slice a ls.length c] 25 (0, 0))) := by rw [hw1]; exact heap_alloc_new _ _
  obtain ⟨n, hn⟩ : ∃ n, n = ls.length := ⟨_, rfl⟩
  obtain ⟨g, hg⟩ : ∃ g, g = w.heap.size := ⟨_, rfl⟩
  have HW1 := Lib.hid hw1
  rw [← hn] at HW1 K1 hm ⊢
  rw [← hg] at K1
  have HN := Lib.hid hn
  have HG := Lib.hid hg
  unfold maxLen at hm
  clear hL hA hok hw1 hn hg
  have q0 := cell_row (j := 0) K1.out rfl
  have q1 := cell_row (j := 1) K1.out rfl
  have q2 := cell_row (j := 2) K1.out rfl
  go_enter Tryz.func3, Tryz.ntmps3
  go_upto_region 1 with fail
  rw [← HW1.out, ← HG.out]
  clear HW1
  by_cases h6 : n ≤ 600
  case neg =>
    have t1 : decide (600 < (n : Int)) = true := decide_eq_true (by omega)
    have HWK := Lib.hid (works_any w1 (HL.out.below B2.out))
    go_wp2_with fail
    refine HWK.out.mono ?_
    rintro e w9 ⟨rfl, hb9⟩
    have B9 : Hid (Below w.heap.size w w9) := B2.out.trans (hb9.mono B2.out.size)
    clear HWK hb9
    go_wp2_with fail
    go_ret
    exact ⟨rfl, B9.out⟩
  have t1 : decide (600 < (n : Int)) = false := decide_eq_false (by omega)
  have HM := Lib.hid (pmay_any ls a c base port w1 (HA.out.below B2.out) HOK.out (by rw [← HN.out]; omega) hb0)
  rw [← HN.out] at HM
  cases hmay : mayB base port ls
  case false =>
    rw [hmay] at HM
    go_wp2_with fail
    refine HM.out.mono ?_
    rintro e w2 ⟨rfl, hb2⟩
    have B3 : Hid (Below w.heap.size w w2) := B2.out.trans (hb2.mono B2.out.size)
    clear HM hb2 B2 q0 q1 q2 K1
    have B2 := Lib.hid B3.out
    have HWK := Lib.hid (works_any w2 (HL.out.below B2.out))
    go_wp2_with fail
    refine HWK.out.mono ?_
    rintro e w9 ⟨rfl, hb9⟩
    have B9 : Hid (Below w.heap.size w w9) := B2.out.trans (hb9.mono B2.out.size)
    clear HWK hb9
    go_wp2_with fail
    go_ret
    exact ⟨rfl, B9.out⟩
  rw [hmay] at HM
  have HPO := Lib.hid (mayB_ok hmay HOK.out).1
  have HMAY := Lib.hid hmay
  clear hmay
  go_wp2_with fail
  refine HM.out.mono ?_
  rintro e w2 ⟨rfl, hb2⟩
  have B3 : Hid (Below w.heap.size w w2) := B2.out.trans (hb2.mono B2.out.size)
  have K2 := Lib.hid (kept K1.out hb2)
  clear HM hb2 B2 K1 q0 q1 q2
  have B2 := Lib.hid B3.out
  have q0 := cell_row (j := 0) K2.out rfl
  have q1 := cell_row (j := 1) K2.out rfl
  have q2 := cell_row (j := 2) K2.out rfl
  have lg := heap_lt K2.out
  obtain ⟨N, hN⟩ : ∃ N, N = m % 40 := ⟨_, rfl⟩
  have t3 : (m : Int).tmod 40 = (N : Int) := by rw [Int.tmod_eq_emod_of_nonneg (by omega)]; omega
  have hN2 : N < 40 := by omega
  have HS := Lib.hid (sends_any ls a c base f N port w2 (HA.out.below B2.out) HOK.out (by rw [← HN.out]; omega) hb0 hf (by omega) HMAY.out (HL.out.below B2.out))
  rw [← HN.out] at HS
  clear hN
  go_wp2_with fail
  refine HS.out.mono ?_
  rintro e w3 ⟨⟨v, rfl, hv⟩, hb3⟩
  have hlen : (sentsN ls f N).length = N := by unfold sentsN; simp
  obtain ⟨sa, sc, rfl, _, hsc, hNA⟩ := nums_of_own (l := sentsN ls f N) (by rw [hlen]; exact hv)
  rw [hlen]
  have HNA := Lib.hid hNA
  have HLEN := Lib.hid hlen
  have B4 : Hid (Below w.heap.size w w3) := B2.out.trans (hb3.mono B2.out.size)
  have K3 := Lib.hid (kept K2.out hb3)
  clear HS hb3 B2 B3 K2 q0 q1 q2 lg hv hNA hlen
  go_wp2_with fail
  go_loopw [1, 34] (fun t i wr => ∃ k : Nat, k ≤ N ∧ i = .int .i64 (k : Int) ∧ t = .int .u32 ((itN f k : Nat) : Int) ∧ Hid (Below w3.heap.size w3 wr)) (fun _ i _ => N - (intOf i).toNat)
  case atStart => exact ⟨0, Nat.zero_le _, rfl, rfl, Below.refl _ _⟩
  case round =>
    obtain ⟨k, hk, rfl, rfl, BB⟩ := hrel
    have B2 : Hid (Below w.heap.size w wr) := B4.out.trans (BB.out.mono B4.out.size)
    rcases Nat.lt_or_ge k N with hk2 | hk2
    case inr =>
      obtain rfl : k = N := by omega
      have t2 : decide ((k : Int) < (k : Int)) = false := by simp
      clear t3
      have HWK := Lib.hid (works_any wr (HL.out.below B2.out))
      go_wp2_with fail
      refine HWK.out.mono ?_
      rintro e w9 ⟨rfl, hb9⟩
      have B9 : Hid (Below w.heap.size w w9) := B2.out.trans (hb9.mono B2.out.size)
      clear HWK hb9
      go_wp2_with fail
      go_ret
      exact ⟨rfl, B9.out⟩
    have t2 : decide ((k : Int) < (N : Int)) = true := decide_eq_true (by omega)
    obtain ⟨ab, ao, rfl, hab, hac⟩ : ∃ b off, sa = some ⟨b, off, none⟩ ∧ b < w3.heap.size ∧ ∀ i, i < (sentsN ls f N).length → ∀ j, j < 1 → w3.cell? ⟨b, off + i * 1 + j, none⟩ = some (.int .u32 (((sentsN ls f N).getD i 0 : Nat) : Int)) := SliceN.at HNA.out (by rw [HLEN.out]; omega)
    obtain ⟨x, hx⟩ : ∃ x, x = sentN ls (itN f k) := ⟨_, rfl⟩
    have a0 : wr.cell? ⟨ab, ao + k, none⟩ = some (.int .u32 (x : Int)) := by
      have h := hac k (by rw [HLEN.out]; exact hk2) 0 (by omega)
      rw [show (sentsN ls f N).getD k 0 = x by rw [hx, ← sentF_sentN]; unfold sentsN; simp [List.getD_eq_getElem?_getD, hk2]] at h
      exact (BB.out.cell hab).trans (by simpa using h)
    have K4 := Lib.hid (kept K3.out BB.out)
    have q0 := cell_row (j := 0) K4.out rfl
    have q1 := cell_row (j := 1) K4.out rfl
    have q2 := cell_row (j := 2) K4.out rfl
    have HO := Lib.hid (others_any ls a c base port wr (HA.out.below B2.out) (by rw [← HN.out]; omega))
    rw [← HN.out] at HO
    have HX := Lib.hid hx
    clear hx hac
    go_wp2_with fail
    refine HO.out.mono ?_
    rintro e w5 ⟨⟨v, rfl, hv⟩, hb5⟩
    obtain ⟨a2, c2, rfl, _, _, hp⟩ := pls_of_own (ls := ls) hv
    have HSN := Lib.hid (rsent_any ls a2 c2 (itN f k) w5 hp (by rw [← HN.out]; omega) (fun i hi => (HPO.out.lines _ (by rw [List.getD_eq_getElem?_getD, List.getElem?_eq_getElem hi]; exact List.getElem_mem hi)).2))
    rw [← HX.out, ← HN.out] at HSN
    rw [← HN.out]
    have BB5 : Hid (Below w3.heap.size w3 w5) := BB.out.trans (hb5.mono BB.out.size)
    have B5 : Hid (Below w.heap.size w w5) := B2.out.trans (hb5.mono B2.out.size)
    clear hv hb5 hp HO BB B2 K4 q0 q1 q2 a0
    go_wp2_with fail
    refine HSN.out.mono ?_
    rintro e w6 ⟨rfl, hb6⟩
    have BB6 : Hid (Below w3.heap.size w3 w6) := BB5.out.trans (hb6.mono BB5.out.size)
    have HMR := Lib.hid (rmore_any (itN f k) w6 (itN_lt hf k))
    have t4 : ((x : Int) == (x : Int)) = true := beq_self_eq_true _
    clear hb6 HSN BB5 B5
    go_wp2_with fail
    refine HMR.out.mono ?_
    rintro e w7 ⟨rfl, rfl⟩
    clear HMR
    go_wp2_with fail
    refine ⟨⟨k + 1, by omega, by go_num, rfl, BB6⟩, ?_⟩
    simp [intOf]; omega
theorem sends_walk (v0 : Value) (a1 a2 : Int) (w : World) (h0 : ReadsC w 25 v0.cells.toList ∧ Value.okWide Tryz.prog w .any 0 25 v0) (h1 : (Lit.int .u32 a1).wf = true) (h2 : (Lit.int .u8 a2).wf = true) (hL : LibW w) :
    Calls Tryz.prog 3 #[v0, .int .u32 a1, .int .u8 a2] w fun e w' => e = .returned (.bool true) ∧ Below w.heap.size w w' := by
  obtain ⟨base, port, a, c, ls, rfl, hb, _, hc, hcm, hA, hok⟩ := rd_plan h0
  obtain ⟨k0, k1⟩ := bounds_u32 h1
  obtain ⟨f, rfl⟩ := Int.eq_ofNat_of_zero_le k0
  obtain ⟨k2, k3⟩ := bounds_u8 h2
  obtain ⟨m, rfl⟩ := Int.eq_ofNat_of_zero_le k2
  exact sendsw_any ls a c base f m port w hA hok (by omega) hb (by omega) (by omega) hL
end Go.Proofs.YtdlpgoackmgdkaaGreatDoor
