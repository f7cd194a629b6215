/- Is a table greater than those of which the laws tell? -/
import Derived.Test.YtpodedhnlicckaaGreatDoorWt
import Derived.Test.YtpodedhnlicckaaGreatDoorTabK
import Derived.BigQuiet
namespace Go.Proofs.YtpodedhnlicckaaGreatDoor
open Go.RowKit
set_option linter.unusedVariables false
set_option linter.unusedSimpArgs false
def grS (T : Tab) : Nat → Nat
  | 0 => T.pts.length + T.rts.length
  | k + 1 => grS T k + (T.rts.getD k rt0).tr.length + (T.rts.getD k rt0).pts.length + (T.rts.getD k rt0).con.length
def greatB (T : Tab) : Bool := decide (5000 < grS T T.rts.length) || decide (60 < T.rts.length)
theorem grS_mono (T : Tab) : ∀ {i j : Nat}, i ≤ j → grS T i ≤ grS T j
  | i, 0, h => by have : i = 0 := by omega
                  subst this; exact Nat.le_refl _
  | i, j + 1, h => by
    by_cases e : i = j + 1
    · subst e; exact Nat.le_refl _
    · have := grS_mono T (show i ≤ j by omega)
      show _ ≤ grS T j + _ + _ + _
      omega
structure Small (T : Tab) : Prop where
  n : T.rts.length ≤ 60
  p : T.pts.length ≤ 5000
  tr : ∀ i, i < T.rts.length → (T.rts.getD i rt0).tr.length ≤ 5000
  pt : ∀ i, i < T.rts.length → (T.rts.getD i rt0).pts.length ≤ 5000
  co : ∀ i, i < T.rts.length → (T.rts.getD i rt0).con.length ≤ 5000
theorem small_of {T : Tab} (h : greatB T = false) : Small T := by
  unfold greatB at h
  rw [Bool.or_eq_false_iff] at h
  have h1 := of_decide_eq_false h.1
  have h2 := of_decide_eq_false h.2
  have h3 : ∀ i, i < T.rts.length → grS T i + (T.rts.getD i rt0).tr.length + (T.rts.getD i rt0).pts.length + (T.rts.getD i rt0).con.length ≤ 5000 := fun i hi => by
    have h4 : grS T (i + 1) ≤ _ := grS_mono T (show i + 1 ≤ T.rts.length by omega)
    have h5 : grS T (i + 1) = grS T i + (T.rts.getD i rt0).tr.length + (T.rts.getD i rt0).pts.length + (T.rts.getD i rt0).con.length := rfl
    omega
  have h0 : grS T 0 ≤ grS T T.rts.length := grS_mono T (Nat.zero_le _)
  have h00 : grS T 0 = T.pts.length + T.rts.length := rfl
  exact ⟨by omega, by omega, fun i hi => by have := h3 i hi; omega, fun i hi => by have := h3 i hi; omega, fun i hi => by have := h3 i hi; omega⟩
theorem Small.big {T : Tab} (h : Small T) : ∀ r ∈ T.rts, r.pts.length ≤ 1000000 := fun r hr => by
  obtain ⟨i, hi, e⟩ := List.mem_iff_getElem.1 hr
  have := h.pt i hi
  rw [List.getD_eq_getElem?_getD, List.getElem?_eq_getElem hi] at this
  rw [← e]
  have h2 : (T.rts[i]).pts.length ≤ 5000 := this
  omega
set_option maxRecDepth 100000 in
set_option maxHeartbeats 8000000 in
theorem great_any (v : Value) (T : Tab) (w : World) (hT : TabAt w v T) (hs : TSm T) :
    Calls Tryz.prog 15 #[v] w fun e w' => e = .returned (.bool (greatB T)) ∧ Below w.heap.size w w' := by
  obtain ⟨⟨vp, vr, rfl, hP, hr⟩, _, _⟩ := hT
  obtain ⟨a, c, C0, rfl, hlc, hcm, _⟩ := hr.at_
  obtain ⟨⟨va, vc, rfl, hvl, hvm, _⟩, _⟩ := id hP
  have HR := Lib.hid hr
  have HS := Lib.hid hs
  have hs1 := hs.p; have hs2 := hs.r
  obtain ⟨w1, hw1⟩ : ∃ w1, w1 = w.alloc (.cells #[.int .i64 T.tracks, .slice va T.pts.length vc, .int .i64 T.sigs, .slice a T.rts.length c] 25) := ⟨_, rfl⟩
  have B1 : Hid (Below w.heap.size w w1) := by rw [hw1]; exact tb_alloc_below _ _
  have K1 : Hid (w1.heap[w.heap.size]? = some (.cells #[.int .i64 T.tracks, .slice va T.pts.length vc, .int .i64 T.sigs, .slice a T.rts.length c] 25 (0, 0))) := by rw [hw1]; exact heap_alloc_new _ _
  have HW1 := Lib.hid hw1
  clear hw1 hP hr hs hlc hcm hvl hvm
  obtain ⟨G, hG⟩ : ∃ G, G = greatB T := ⟨_, rfl⟩
  rw [← hG]
  have HG : Hid (G = (decide (5000 < grS T T.rts.length) || decide (60 < T.rts.length))) := hG
  clear hG
  obtain ⟨s, hsd⟩ : ∃ s : Nat → Nat, s = grS T := ⟨_, rfl⟩
  rw [← hsd] at HG
  have H0 : s 0 = T.pts.length + T.rts.length := by rw [hsd]; rfl
  have HM : Hid (∀ i j, i ≤ j → s i ≤ s j) := fun i j h => by rw [hsd]; exact grS_mono T h
  have HN : Hid (∀ k, s (k + 1) = s k + (T.rts.getD k rt0).tr.length + (T.rts.getD k rt0).pts.length + (T.rts.getD k rt0).con.length) := fun k => by rw [hsd]; rfl
  clear hsd
  generalize hlen : T.rts.length = m at *
  have HLEN := Lib.hid hlen
  clear hlen
  have c1 := cell_row (j := 1) K1.out rfl
  have c3 := cell_row (j := 3) K1.out rfl
  have l1 := heap_lt K1.out
  go_enter Tryz.func15, Tryz.ntmps15
  go_upto_region 1 with fail
  rw [← HW1.out]
  go_upto_region 2 with fail
  rw [show ((T.pts.length : Nat) : Int) + (m : Int) = ((s 0 : Nat) : Int) from by rw [H0]; exact (Int.natCast_add _ _).symm]
  clear c1 c3 l1
  go_upto_region 3 with fail
  go_loopw [3, 4] (fun n i wr => ∃ k : Nat, k ≤ m ∧ i = .int .i64 k ∧ n = .int .i64 (s k) ∧ (∀ j, j < k → s j ≤ 5000) ∧ (s k ≤ 5000 + 3 * 140737488355328) ∧ Below w1.heap.size w1 wr) (fun _ i _ => m - (intOf i).toNat)
  case atStart => exact ⟨0, Nat.zero_le _, rfl, rfl, fun j hj => absurd hj (by omega), by omega, Below.refl _ _⟩
  case round =>
    obtain ⟨k, hk, rfl, rfl, hj, hsk, hb⟩ := hrel
    have HJ := Lib.hid hj; have BR := Lib.hid hb
    clear hj hb
    have K2 := Lib.hid (tb_kept K1.out BR.out)
    have c3 := cell_row (j := 3) K2.out rfl
    have l1 := heap_lt K2.out
    by_cases hlt : k < m
    · by_cases h5 : s k ≤ 5000
      · obtain ⟨b, off, C, rfl, hb, hc, hR⟩ := HR.out.cells (i := k) (by rw [HLEN.out]; exact hlt)
        obtain ⟨r, hrr⟩ : ∃ r, r = T.rts.getD k rt0 := ⟨_, rfl⟩
        have hq1 := HS.out.tr k (by rw [HLEN.out]; exact hlt)
        have hq2 := HS.out.pt k (by rw [HLEN.out]; exact hlt)
        have hq3 := HS.out.co k (by rw [HLEN.out]; exact hlt)
        have HN1 := HN.out k
        rw [← hrr] at hR hq1 hq2 hq3 HN1
        clear hrr
        obtain ⟨⟨ta, tc, htr, _⟩, _⟩ := hR.tr
        obtain ⟨⟨pa, pc, hp, _⟩, _⟩ := hR.pts
        obtain ⟨⟨ca, cc, hcn, _⟩, _⟩ := hR.con
        have e1 : ∀ p, p.block < w.heap.size → wr.cell? p = w.cell? p := fun p hp => by rw [BR.out.cell (Nat.lt_of_lt_of_le hp B1.out.size), B1.out.cell hp]
        have hx1 : wr.cell? ⟨b, off + k * 6 + 1, none⟩ = some (.slice ta r.tr.length tc) := by rw [e1 _ hb, ← htr]; exact hc 1 (by omega)
        have hx2 : wr.cell? ⟨b, off + k * 6 + 2, none⟩ = some (.slice pa r.pts.length pc) := by rw [e1 _ hb, ← hp]; exact hc 2 (by omega)
        have hx4 : wr.cell? ⟨b, off + k * 6 + 4, none⟩ = some (.slice ca r.con.length cc) := by rw [e1 _ hb, ← hcn]; exact hc 4 (by omega)
        have hbl : b < wr.heap.size := Nat.lt_of_lt_of_le hb (Nat.le_trans B1.out.size BR.out.size)
        clear e1 hc hR htr hp hcn hb
        go_upto_region 5 with fail
        go_quiet (fail)
        go_wp2_with fail
        go_roundw
        case rel => exact ⟨k + 1, by omega, rfl, by rw [HN1]; rfl, fun j hj => by by_cases e : j = k; (· subst e; exact h5); (· exact HJ.out j (by omega)), by omega, ⟨BR.out.os, BR.out.tape, BR.out.output, BR.out.size, BR.out.block⟩⟩
        case measure => simp [intOf]; omega
      · have hd : G = true := by rw [HG.out]; have := HM.out k m hk; have e : decide (5000 < s m) = true := decide_eq_true (by omega); rw [e]; rfl
        go_wp2_with fail
        all_goals (go_ret; exact ⟨by rw [hd]; rfl, B1.out.trans (BR.out.mono B1.out.size)⟩)
    · have hkm : k = m := by omega
      subst hkm
      have hd : (decide ((5000 : Int) < (s k : Int)) || decide ((60 : Int) < (k : Int))) = G := by
        rw [HG.out]
        congr 1
        · exact decide_eq_decide.2 (by omega)
        · exact decide_eq_decide.2 (by omega)
      go_wp2_with fail
      all_goals (go_ret; exact ⟨by rw [← hd]; first | rfl | (congr 2; simp; omega), B1.out.trans (BR.out.mono B1.out.size)⟩)
end Go.Proofs.YtpodedhnlicckaaGreatDoor
/- The document's table. -/
namespace Go.Proofs.YtpodedhnlicckaaGreatDoor
open Go.RowKit
set_option linter.unusedVariables false
set_option linter.unusedSimpArgs false
theorem Below.alloc' {a w : World} (h : Below a.heap.size a w) (o : Obj) : Below a.heap.size a (w.alloc o) := h.alloc h.size o
def tw2T : Tab := ⟨3, [1], 2, [⟨0, [0, 1], [(0, false)], -1, [1], 2⟩, ⟨1, [2, 1], [(0, true)], 0, [0], 0⟩]⟩
theorem ints_of_row {W : World} {b : Nat} {a : Array Value} {t : TypeId} {l : List Int} (h : W.heap[b]? = some (.cells a t (0, 0))) (he : ∀ i, i < l.length → a[i]? = some (.int .i64 (l.getD i 0)) ∧ i64ok (l.getD i 0)) (hl : l.length ≤ 1000) : IntsAt W (.slice (some ⟨b, 0, none⟩) l.length l.length) l :=
  ⟨⟨_, _, rfl, Nat.le_refl _, by unfold maxLen; omega, .inr ⟨b, 0, rfl, heap_lt h, fun i hi => by rw [Nat.zero_add]; exact cell_row h (he i hi).1⟩⟩, fun i hi => (he i hi).2⟩
theorem pts_of_row {W : World} {b : Nat} {a : Array Value} {t : TypeId} {l : List (Int × Bool)} (h : W.heap[b]? = some (.cells a t (0, 0))) (he : ∀ i, i < l.length → (∀ j, j < 2 → a[i * 2 + j]? = some (ptV l i j)) ∧ i64ok (l.getD i (0, false)).1) (hl : l.length ≤ 1000) : PtsAt W (.slice (some ⟨b, 0, none⟩) l.length l.length) l :=
  ⟨⟨_, _, rfl, Nat.le_refl _, by unfold maxLen; omega, .inr ⟨b, 0, rfl, heap_lt h, fun i hi j hj => by rw [Nat.zero_add]; exact cell_row h ((he i hi).1 j hj)⟩⟩, fun i hi => (he i hi).2⟩
theorem heap9 (w : World) (a0 a1 a2 a3 a4 a5 a6 a7 a8 : Array Value) (t0 t1 t2 t3 t4 t5 t6 t7 t8 : TypeId) : (((((((((w.alloc (.cells a0 t0)).alloc (.cells a1 t1)).alloc (.cells a2 t2)).alloc (.cells a3 t3)).alloc (.cells a4 t4)).alloc (.cells a5 t5)).alloc (.cells a6 t6)).alloc (.cells a7 t7)).alloc (.cells a8 t8)).heap = w.heap ++ #[Obj.cells a0 t0 (0, 0), Obj.cells a1 t1 (0, 0), Obj.cells a2 t2 (0, 0), Obj.cells a3 t3 (0, 0), Obj.cells a4 t4 (0, 0), Obj.cells a5 t5 (0, 0), Obj.cells a6 t6 (0, 0), Obj.cells a7 t7 (0, 0), Obj.cells a8 t8 (0, 0)] := by
  show (((((((((w.heap.push (Obj.cells a0 t0 (0, 0))).push (Obj.cells a1 t1 (0, 0))).push (Obj.cells a2 t2 (0, 0))).push (Obj.cells a3 t3 (0, 0))).push (Obj.cells a4 t4 (0, 0))).push (Obj.cells a5 t5 (0, 0))).push (Obj.cells a6 t6 (0, 0))).push (Obj.cells a7 t7 (0, 0))).push (Obj.cells a8 t8 (0, 0))) = _
  apply Array.toList_inj.1
  simp only [Array.toList_push, Array.toList_append, List.append_assoc, List.cons_append, List.nil_append]
theorem arr_getD {a : Array Value} {q : Nat} (h : q < a.size) : a[q]? = some (a.getD q undef) := by
  rw [Array.getElem?_eq_getElem h, Array.getD, dif_pos h]; rfl
theorem nine_at (w : World) (a0 a1 a2 a3 a4 a5 a6 a7 a8 : Array Value) (t0 t1 t2 t3 t4 t5 t6 t7 t8 : TypeId) : (((((((((w.alloc (.cells a0 t0)).alloc (.cells a1 t1)).alloc (.cells a2 t2)).alloc (.cells a3 t3)).alloc (.cells a4 t4)).alloc (.cells a5 t5)).alloc (.cells a6 t6)).alloc (.cells a7 t7)).alloc (.cells a8 t8)).heap[w.heap.size + 1]? = some (.cells a1 t1 (0, 0)) ∧ (((((((((w.alloc (.cells a0 t0)).alloc (.cells a1 t1)).alloc (.cells a2 t2)).alloc (.cells a3 t3)).alloc (.cells a4 t4)).alloc (.cells a5 t5)).alloc (.cells a6 t6)).alloc (.cells a7 t7)).alloc (.cells a8 t8)).heap[w.heap.size + 1 + 1]? = some (.cells a2 t2 (0, 0)) ∧ (((((((((w.alloc (.cells a0 t0)).alloc (.cells a1 t1)).alloc (.cells a2 t2)).alloc (.cells a3 t3)).alloc (.cells a4 t4)).alloc (.cells a5 t5)).alloc (.cells a6 t6)).alloc (.cells a7 t7)).alloc (.cells a8 t8)).heap[w.heap.size + 1 + 1 + 1]? = some (.cells a3 t3 (0, 0)) ∧ (((((((((w.alloc (.cells a0 t0)).alloc (.cells a1 t1)).alloc (.cells a2 t2)).alloc (.cells a3 t3)).alloc (.cells a4 t4)).alloc (.cells a5 t5)).alloc (.cells a6 t6)).alloc (.cells a7 t7)).alloc (.cells a8 t8)).heap[w.heap.size + 1 + 1 + 1 + 1]? = some (.cells a4 t4 (0, 0)) ∧ (((((((((w.alloc (.cells a0 t0)).alloc (.cells a1 t1)).alloc (.cells a2 t2)).alloc (.cells a3 t3)).alloc (.cells a4 t4)).alloc (.cells a5 t5)).alloc (.cells a6 t6)).alloc (.cells a7 t7)).alloc (.cells a8 t8)).heap[w.heap.size + 1 + 1 + 1 + 1 + 1]? = some (.cells a5 t5 (0, 0)) ∧ (((((((((w.alloc (.cells a0 t0)).alloc (.cells a1 t1)).alloc (.cells a2 t2)).alloc (.cells a3 t3)).alloc (.cells a4 t4)).alloc (.cells a5 t5)).alloc (.cells a6 t6)).alloc (.cells a7 t7)).alloc (.cells a8 t8)).heap[w.heap.size + 1 + 1 + 1 + 1 + 1 + 1]? = some (.cells a6 t6 (0, 0)) ∧ (((((((((w.alloc (.cells a0 t0)).alloc (.cells a1 t1)).alloc (.cells a2 t2)).alloc (.cells a3 t3)).alloc (.cells a4 t4)).alloc (.cells a5 t5)).alloc (.cells a6 t6)).alloc (.cells a7 t7)).alloc (.cells a8 t8)).heap[w.heap.size + 1 + 1 + 1 + 1 + 1 + 1 + 1]? = some (.cells a7 t7 (0, 0)) ∧ (((((((((w.alloc (.cells a0 t0)).alloc (.cells a1 t1)).alloc (.cells a2 t2)).alloc (.cells a3 t3)).alloc (.cells a4 t4)).alloc (.cells a5 t5)).alloc (.cells a6 t6)).alloc (.cells a7 t7)).alloc (.cells a8 t8)).heap[w.heap.size + 1 + 1 + 1 + 1 + 1 + 1 + 1 + 1]? = some (.cells a8 t8 (0, 0)) := by
  rw [heap9]
  refine ⟨?_, ?_, ?_, ?_, ?_, ?_, ?_, ?_⟩
  · rw [Array.getElem?_append_right (by omega), show w.heap.size + 1 - w.heap.size = 1 from by omega]; rfl
  · rw [Array.getElem?_append_right (by omega), show w.heap.size + 1 + 1 - w.heap.size = 2 from by omega]; rfl
  · rw [Array.getElem?_append_right (by omega), show w.heap.size + 1 + 1 + 1 - w.heap.size = 3 from by omega]; rfl
  · rw [Array.getElem?_append_right (by omega), show w.heap.size + 1 + 1 + 1 + 1 - w.heap.size = 4 from by omega]; rfl
  · rw [Array.getElem?_append_right (by omega), show w.heap.size + 1 + 1 + 1 + 1 + 1 - w.heap.size = 5 from by omega]; rfl
  · rw [Array.getElem?_append_right (by omega), show w.heap.size + 1 + 1 + 1 + 1 + 1 + 1 - w.heap.size = 6 from by omega]; rfl
  · rw [Array.getElem?_append_right (by omega), show w.heap.size + 1 + 1 + 1 + 1 + 1 + 1 + 1 - w.heap.size = 7 from by omega]; rfl
  · rw [Array.getElem?_append_right (by omega), show w.heap.size + 1 + 1 + 1 + 1 + 1 + 1 + 1 + 1 - w.heap.size = 8 from by omega]; rfl
set_option maxRecDepth 100000 in
theorem two_at (w : World) : TabAt (((((((((w.alloc (.cells #[.int .i64 3, .slice (some ⟨w.heap.size + 1, 0, none⟩) 1 1, .int .i64 2, .slice (some ⟨w.heap.size + 1 + 1 + 1 + 1 + 1 + 1 + 1 + 1, 0, none⟩) 2 2] 25)).alloc (.cells #[.int .i64 1] 3)).alloc (.cells #[.int .i64 0, .int .i64 1] 3)).alloc (.cells #[.int .i64 0, .bool false] 57)).alloc (.cells #[.int .i64 1] 3)).alloc (.cells #[.int .i64 2, .int .i64 1] 3)).alloc (.cells #[.int .i64 0, .bool true] 57)).alloc (.cells #[.int .i64 0] 3)).alloc (.cells #[.int .i64 0, .slice (some ⟨w.heap.size + 1 + 1, 0, none⟩) 2 2, .slice (some ⟨w.heap.size + 1 + 1 + 1, 0, none⟩) 1 1, .int .i64 (-1), .slice (some ⟨w.heap.size + 1 + 1 + 1 + 1, 0, none⟩) 1 1, .int .u16 2, .int .i64 1, .slice (some ⟨w.heap.size + 1 + 1 + 1 + 1 + 1, 0, none⟩) 2 2, .slice (some ⟨w.heap.size + 1 + 1 + 1 + 1 + 1 + 1, 0, none⟩) 1 1, .int .i64 0, .slice (some ⟨w.heap.size + 1 + 1 + 1 + 1 + 1 + 1 + 1, 0, none⟩) 1 1, .int .u16 0] 30)) (.agg #[.int .i64 3, .slice (some ⟨w.heap.size + 1, 0, none⟩) 1 1, .int .i64 2, .slice (some ⟨w.heap.size + 1 + 1 + 1 + 1 + 1 + 1 + 1 + 1, 0, none⟩) 2 2]) tw2T := by
  obtain ⟨k1, k2, k3, k4, k5, k6, k7, k8⟩ := nine_at w #[.int .i64 3, .slice (some ⟨w.heap.size + 1, 0, none⟩) 1 1, .int .i64 2, .slice (some ⟨w.heap.size + 1 + 1 + 1 + 1 + 1 + 1 + 1 + 1, 0, none⟩) 2 2] #[.int .i64 1] #[.int .i64 0, .int .i64 1] #[.int .i64 0, .bool false] #[.int .i64 1] #[.int .i64 2, .int .i64 1] #[.int .i64 0, .bool true] #[.int .i64 0] #[.int .i64 0, .slice (some ⟨w.heap.size + 1 + 1, 0, none⟩) 2 2, .slice (some ⟨w.heap.size + 1 + 1 + 1, 0, none⟩) 1 1, .int .i64 (-1), .slice (some ⟨w.heap.size + 1 + 1 + 1 + 1, 0, none⟩) 1 1, .int .u16 2, .int .i64 1, .slice (some ⟨w.heap.size + 1 + 1 + 1 + 1 + 1, 0, none⟩) 2 2, .slice (some ⟨w.heap.size + 1 + 1 + 1 + 1 + 1 + 1, 0, none⟩) 1 1, .int .i64 0, .slice (some ⟨w.heap.size + 1 + 1 + 1 + 1 + 1 + 1 + 1, 0, none⟩) 1 1, .int .u16 0] 25 3 3 57 3 3 57 3 30
  generalize (((((((((w.alloc (.cells #[.int .i64 3, .slice (some ⟨w.heap.size + 1, 0, none⟩) 1 1, .int .i64 2, .slice (some ⟨w.heap.size + 1 + 1 + 1 + 1 + 1 + 1 + 1 + 1, 0, none⟩) 2 2] 25)).alloc (.cells #[.int .i64 1] 3)).alloc (.cells #[.int .i64 0, .int .i64 1] 3)).alloc (.cells #[.int .i64 0, .bool false] 57)).alloc (.cells #[.int .i64 1] 3)).alloc (.cells #[.int .i64 2, .int .i64 1] 3)).alloc (.cells #[.int .i64 0, .bool true] 57)).alloc (.cells #[.int .i64 0] 3)).alloc (.cells #[.int .i64 0, .slice (some ⟨w.heap.size + 1 + 1, 0, none⟩) 2 2, .slice (some ⟨w.heap.size + 1 + 1 + 1, 0, none⟩) 1 1, .int .i64 (-1), .slice (some ⟨w.heap.size + 1 + 1 + 1 + 1, 0, none⟩) 1 1, .int .u16 2, .int .i64 1, .slice (some ⟨w.heap.size + 1 + 1 + 1 + 1 + 1, 0, none⟩) 2 2, .slice (some ⟨w.heap.size + 1 + 1 + 1 + 1 + 1 + 1, 0, none⟩) 1 1, .int .i64 0, .slice (some ⟨w.heap.size + 1 + 1 + 1 + 1 + 1 + 1 + 1, 0, none⟩) 1 1, .int .u16 0] 30)) = W at *
  generalize w.heap.size = n at *
  refine ⟨⟨_, _, rfl, (ints_of_row (l := [1]) (k1) (fun i hi => by match i, hi with | 0, _ => exact ⟨rfl, by unfold i64ok; decide⟩) (by decide)), ⟨⟨_, _, fun i j => #[.int .i64 0, .slice (some ⟨n + 1 + 1, 0, none⟩) 2 2, .slice (some ⟨n + 1 + 1 + 1, 0, none⟩) 1 1, .int .i64 (-1), .slice (some ⟨n + 1 + 1 + 1 + 1, 0, none⟩) 1 1, .int .u16 2, .int .i64 1, .slice (some ⟨n + 1 + 1 + 1 + 1 + 1, 0, none⟩) 2 2, .slice (some ⟨n + 1 + 1 + 1 + 1 + 1 + 1, 0, none⟩) 1 1, .int .i64 0, .slice (some ⟨n + 1 + 1 + 1 + 1 + 1 + 1 + 1, 0, none⟩) 1 1, .int .u16 0].getD (i * 6 + j) undef, rfl, Nat.le_refl _, by unfold maxLen; decide, .inr ⟨_, 0, rfl, heap_lt k8, fun i hi j hj => ?_⟩, fun i hi => ?_⟩⟩⟩, by unfold i64ok tw2T; decide, by unfold i64ok tw2T; decide⟩
  · rw [Nat.zero_add]
    have hi2 : i < 2 := hi
    exact cell_row k8 (arr_getD (by show _ < 12; omega))
  · have hi2 : i < 2 := hi
    match i, hi2 with
    | 0, _ => exact ⟨rfl, (ints_of_row (l := [0, 1]) (k2) (fun i hi => by match i, hi with | 0, _ => exact ⟨rfl, by unfold i64ok; decide⟩ | 1, _ => exact ⟨rfl, by unfold i64ok; decide⟩) (by decide)), (pts_of_row (l := [(0, false)]) (k3) (fun i hi => by match i, hi with | 0, _ => exact ⟨fun j hj => (by match j, hj with | 0, _ => rfl | 1, _ => rfl), by unfold i64ok; decide⟩) (by decide)), rfl, (ints_of_row (l := [1]) (k4) (fun i hi => by match i, hi with | 0, _ => exact ⟨rfl, by unfold i64ok; decide⟩) (by decide)), rfl, by unfold i64ok; decide, by unfold i64ok; decide, by decide⟩
    | 1, _ => exact ⟨rfl, (ints_of_row (l := [2, 1]) (k5) (fun i hi => by match i, hi with | 0, _ => exact ⟨rfl, by unfold i64ok; decide⟩ | 1, _ => exact ⟨rfl, by unfold i64ok; decide⟩) (by decide)), (pts_of_row (l := [(0, true)]) (k6) (fun i hi => by match i, hi with | 0, _ => exact ⟨fun j hj => (by match j, hj with | 0, _ => rfl | 1, _ => rfl), by unfold i64ok; decide⟩) (by decide)), rfl, (ints_of_row (l := [0]) (k7) (fun i hi => by match i, hi with | 0, _ => exact ⟨rfl, by unfold i64ok; decide⟩) (by decide)), rfl, by unfold i64ok; decide, by unfold i64ok; decide, by decide⟩
theorem two_below (w : World) : Below w.heap.size w (((((((((w.alloc (.cells #[.int .i64 3, .slice (some ⟨w.heap.size + 1, 0, none⟩) 1 1, .int .i64 2, .slice (some ⟨w.heap.size + 1 + 1 + 1 + 1 + 1 + 1 + 1 + 1, 0, none⟩) 2 2] 25)).alloc (.cells #[.int .i64 1] 3)).alloc (.cells #[.int .i64 0, .int .i64 1] 3)).alloc (.cells #[.int .i64 0, .bool false] 57)).alloc (.cells #[.int .i64 1] 3)).alloc (.cells #[.int .i64 2, .int .i64 1] 3)).alloc (.cells #[.int .i64 0, .bool true] 57)).alloc (.cells #[.int .i64 0] 3)).alloc (.cells #[.int .i64 0, .slice (some ⟨w.heap.size + 1 + 1, 0, none⟩) 2 2, .slice (some ⟨w.heap.size + 1 + 1 + 1, 0, none⟩) 1 1, .int .i64 (-1), .slice (some ⟨w.heap.size + 1 + 1 + 1 + 1, 0, none⟩) 1 1, .int .u16 2, .int .i64 1, .slice (some ⟨w.heap.size + 1 + 1 + 1 + 1 + 1, 0, none⟩) 2 2, .slice (some ⟨w.heap.size + 1 + 1 + 1 + 1 + 1 + 1, 0, none⟩) 1 1, .int .i64 0, .slice (some ⟨w.heap.size + 1 + 1 + 1 + 1 + 1 + 1 + 1, 0, none⟩) 1 1, .int .u16 0] 30)) := (Below.alloc' (Below.alloc' (Below.alloc' (Below.alloc' (Below.alloc' (Below.alloc' (Below.alloc' (Below.alloc' (Below.alloc' (Below.refl w.heap.size w) _) _) _) _) _) _) _) _) _)
set_option maxRecDepth 100000 in
set_option maxHeartbeats 8000000 in
theorem two_any (w : World) :
    Calls Tryz.prog 9 #[] w fun e w' => ∃ v, e = .returned v ∧ TabAt w' v tw2T ∧ Below w.heap.size w w' := by
  have HT := Lib.hid (two_at w); have HB := Lib.hid (two_below w)
  go_enter Tryz.func9, Tryz.ntmps9
  go_wp2_with fail
  exact bodyPost_ret (v := .agg #[.int .i64 3, .slice (some ⟨w.heap.size + 1, 0, none⟩) 1 1, .int .i64 2, .slice (some ⟨w.heap.size + 1 + 1 + 1 + 1 + 1 + 1 + 1 + 1, 0, none⟩) 2 2]) (by simp [results, Tryz.results9, go_sem]) rfl ⟨_, rfl, HT.out, HB.out⟩
end Go.Proofs.YtpodedhnlicckaaGreatDoor
