/- Is a table greater than those of which the laws tell? -/
import Derived.Test.YtnjeiigdfdjccaaWt
import Derived.Test.YtnjeiigdfdjccaaAutTk
import Derived.BigQuiet
namespace Go.Proofs.Ytnjeiigdfdjccaa
open Go.RowKit
set_option linter.unusedVariables false
set_option linter.unusedSimpArgs false
def grS (T : Tab) : Nat → Nat
  | 0 => T.pts.length + T.rts.length
  | k + 1 => grS T k + (T.rts.getD k rt0).tr.length + (T.rts.getD k rt0).pts.length + (T.rts.getD k rt0).con.length
def greatB (T : Tab) : Bool := decide (5000 < grS T T.rts.length) || decide (60 < T.rts.length)
theorem grS_mono (T : Tab) : ∀ {i j : Nat}, i ≤ j → grS T i ≤ grS T j
  | i, 0, h => by have : i = 0 := by omega
                  subst this; exact Nat.le_refl _
  | i, j + 1, h => by
    by_cases e : i = j + 1
    · subst e; exact Nat.le_refl _
    · have := grS_mono T (show i ≤ j by omega)
      show _ ≤ grS T j + _ + _ + _
      omega
structure Small (T : Tab) : Prop where
  n : T.rts.length ≤ 60
  p : T.pts.length ≤ 5000
  tr : ∀ i, i < T.rts.length → (T.rts.getD i rt0).tr.length ≤ 5000
  pt : ∀ i, i < T.rts.length → (T.rts.getD i rt0).pts.length ≤ 5000
  co : ∀ i, i < T.rts.length → (T.rts.getD i rt0).con.length ≤ 5000
theorem small_of {T : Tab} (h : greatB T = false) : Small T := by
  unfold greatB at h
  rw [Bool.or_eq_false_iff] at h
  have h1 := of_decide_eq_false h.1
  have h2 := of_decide_eq_false h.2
  have h3 : ∀ i, i < T.rts.length → grS T i + (T.rts.getD i rt0).tr.length + (T.rts.getD i rt0).pts.length + (T.rts.getD i rt0).con.length ≤ 5000 := fun i hi => by
    have h4 : grS T (i + 1) ≤ _ := grS_mono T (show i + 1 ≤ T.rts.length by omega)
    have h5 : grS T (i + 1) = grS T i + (T.rts.getD i rt0).tr.length + (T.rts.getD i rt0).pts.length + (T.rts.getD i rt0).con.length := rfl
    omega
  have h0 : grS T 0 ≤ grS T T.rts.length := grS_mono T (Nat.zero_le _)
  have h00 : grS T 0 = T.pts.length + T.rts.length := rfl
  exact ⟨by omega, by omega, fun i hi => by have := h3 i hi; omega, fun i hi => by have := h3 i hi; omega, fun i hi => by have := h3 i hi; omega⟩
theorem Small.big {T : Tab} (h : Small T) : ∀ r ∈ T.rts, r.pts.length ≤ 1000000 := fun r hr => by
  obtain ⟨i, hi, e⟩ := List.mem_iff_getElem.1 hr
  have := h.pt i hi
  rw [List.getD_eq_getElem?_getD, List.getElem?_eq_getElem hi] at this
  rw [← e]
  have h2 : (T.rts[i]).pts.length ≤ 5000 := this
  omega
set_option maxRecDepth 100000 in
set_option maxHeartbeats 8000000 in
theorem great_any (v : Value) (T : Tab) (w : World) (hT : TabAt w v T) (hs : TSm T) :
    Calls Try.prog 23 #[v] w fun e w' => e = .returned (.bool (greatB T)) ∧ Below w.heap.size w w' := by
  obtain ⟨⟨vp, vr, rfl, hP, hr⟩, _, _⟩ := hT
  obtain ⟨a, c, C0, rfl, hlc, hcm, _⟩ := hr.at_
  obtain ⟨⟨va, vc, rfl, hvl, hvm, _⟩, _⟩ := id hP
  have HR := Lib.hid hr
  have HS := Lib.hid hs
  have hs1 := hs.p; have hs2 := hs.r
  obtain ⟨w1, hw1⟩ : ∃ w1, w1 = w.alloc (.cells #[.int .i64 T.tracks, .slice va T.pts.length vc, .int .i64 T.sigs, .slice a T.rts.length c] 25) := ⟨_, rfl⟩
  have B1 : Hid (Below w.heap.size w w1) := by rw [hw1]; exact tb_alloc_below _ _
  have K1 : Hid (w1.heap[w.heap.size]? = some (.cells #[.int .i64 T.tracks, .slice va T.pts.length vc, .int .i64 T.sigs, .slice a T.rts.length c] 25 (0, 0))) := by rw [hw1]; exact heap_alloc_new _ _
  have HW1 := Lib.hid hw1
  clear hw1 hP hr hs hlc hcm hvl hvm
  obtain ⟨G, hG⟩ : ∃ G, G = greatB T := ⟨_, rfl⟩
  rw [← hG]
  have HG : Hid (G = (decide (5000 < grS T T.rts.length) || decide (60 < T.rts.length))) := hG
  clear hG
  obtain ⟨s, hsd⟩ : ∃ s : Nat → Nat, s = grS T := ⟨_, rfl⟩
  rw [← hsd] at HG
  have H0 : s 0 = T.pts.length + T.rts.length := by rw [hsd]; rfl
  have HM : Hid (∀ i j, i ≤ j → s i ≤ s j) := fun i j h => by rw [hsd]; exact grS_mono T h
  have HN : Hid (∀ k, s (k + 1) = s k + (T.rts.getD k rt0).tr.length + (T.rts.getD k rt0).pts.length + (T.rts.getD k rt0).con.length) := fun k => by rw [hsd]; rfl
  clear hsd
  generalize hlen : T.rts.length = m at *
  have HLEN := Lib.hid hlen
  clear hlen
  have c1 := cell_row (j := 1) K1.out rfl
  have c3 := cell_row (j := 3) K1.out rfl
  have l1 := heap_lt K1.out
  go_enter Try.func23, Try.ntmps23
  go_upto_region 1 with fail
  rw [← HW1.out]
  go_upto_region 2 with fail
  rw [show ((T.pts.length : Nat) : Int) + (m : Int) = ((s 0 : Nat) : Int) from by rw [H0]; exact (Int.natCast_add _ _).symm]
  clear c1 c3 l1
  go_upto_region 3 with fail
  go_loopw [3, 4] (fun n i wr => ∃ k : Nat, k ≤ m ∧ i = .int .i64 k ∧ n = .int .i64 (s k) ∧ (∀ j, j < k → s j ≤ 5000) ∧ (s k ≤ 5000 + 3 * 140737488355328) ∧ Below w1.heap.size w1 wr) (fun _ i _ => m - (intOf i).toNat)
  case atStart => exact ⟨0, Nat.zero_le _, rfl, rfl, fun j hj => absurd hj (by omega), by omega, Below.refl _ _⟩
  case round =>
    obtain ⟨k, hk, rfl, rfl, hj, hsk, hb⟩ := hrel
    have HJ := Lib.hid hj; have BR := Lib.hid hb
    clear hj hb
    have K2 := Lib.hid (tb_kept K1.out BR.out)
    have c3 := cell_row (j := 3) K2.out rfl
    have l1 := heap_lt K2.out
    by_cases hlt : k < m
    · by_cases h5 : s k ≤ 5000
      · obtain ⟨b, off, C, rfl, hb, hc, hR⟩ := HR.out.cells (i := k) (by rw [HLEN.out]; exact hlt)
        obtain ⟨r, hrr⟩ : ∃ r, r = T.rts.getD k rt0 := ⟨_, rfl⟩
        have hq1 := HS.out.tr k (by rw [HLEN.out]; exact hlt)
        have hq2 := HS.out.pt k (by rw [HLEN.out]; exact hlt)
        have hq3 := HS.out.co k (by rw [HLEN.out]; exact hlt)
        have HN1 := HN.out k
        rw [← hrr] at hR hq1 hq2 hq3 HN1
        clear hrr
        obtain ⟨⟨ta, tc, htr, _⟩, _⟩ := hR.tr
        obtain ⟨⟨pa, pc, hp, _⟩, _⟩ := hR.pts
        obtain ⟨⟨ca, cc, hcn, _⟩, _⟩ := hR.con
        have e1 : ∀ p, p.block < w.heap.size → wr.cell? p = w.cell? p := fun p hp => by rw [BR.out.cell (Nat.lt_of_lt_of_le hp B1.out.size), B1.out.cell hp]
        have hx1 : wr.cell? ⟨b, off + k * 6 + 1, none⟩ = some (.slice ta r.tr.length tc) := by rw [e1 _ hb, ← htr]; exact hc 1 (by omega)
        have hx2 : wr.cell? ⟨b, off + k * 6 + 2, none⟩ = some (.slice pa r.pts.length pc) := by rw [e1 _ hb, ← hp]; exact hc 2 (by omega)
        have hx4 : wr.cell? ⟨b, off + k * 6 + 4, none⟩ = some (.slice ca r.con.length cc) := by rw [e1 _ hb, ← hcn]; exact hc 4 (by omega)
        have hbl : b < wr.heap.size := Nat.lt_of_lt_of_le hb (Nat.le_trans B1.out.size BR.out.size)
        clear e1 hc hR htr hp hcn hb
        go_upto_region 5 with fail
        go_quiet (fail)
        go_wp2_with fail
        go_roundw
        case rel => exact ⟨k + 1, by omega, rfl, by rw [HN1]; rfl, fun j hj => by by_cases e : j = k; (· subst e; exact h5); (· exact HJ.out j (by omega)), by omega, ⟨BR.out.os, BR.out.tape, BR.out.output, BR.out.size, BR.out.block⟩⟩
        case measure => simp [intOf]; omega
      · have hd : G = true := by rw [HG.out]; have := HM.out k m hk; have e : decide (5000 < s m) = true := decide_eq_true (by omega); rw [e]; rfl
        go_wp2_with fail
        all_goals (go_ret; exact ⟨by rw [hd]; rfl, B1.out.trans (BR.out.mono B1.out.size)⟩)
    · have hkm : k = m := by omega
      subst hkm
      have hd : (decide ((5000 : Int) < (s k : Int)) || decide ((60 : Int) < (k : Int))) = G := by
        rw [HG.out]
        congr 1
        · exact decide_eq_decide.2 (by omega)
        · exact decide_eq_decide.2 (by omega)
      go_wp2_with fail
      all_goals (go_ret; exact ⟨by rw [← hd]; first | rfl | (congr 2; simp; omega), B1.out.trans (BR.out.mono B1.out.size)⟩)
end Go.Proofs.Ytnjeiigdfdjccaa
