/- New. -/
import Derived.Test.YtnjeiigdfdjccaaYrdFr
import Derived.Test.YtnjeiigdfdjccaaAutNw
namespace Go.Proofs.Ytnjeiigdfdjccaa
open Go.RowKit
set_option linter.unusedVariables false
set_option linter.unusedSimpArgs false
theorem info_tn : (Try.prog.info? 83).map (fun i => (i.zero, i.size, i.bytes)) = some (some (.agg #[.bool false, .bool false, .int .i64 0, .int .i64 0]), 4, 24) := by kernel_rfl
theorem info_pn : (Try.prog.info? 78).map (fun i => (i.zero, i.size, i.bytes)) = some (some (.agg #[.int .u8 0, .int .i64 0, .bool false]), 3, 24) := by kernel_rfl
theorem make_tn (n : Nat) (hn : n ≤ 1000) (w : World) : (Instr.makeSlice 73 (.int .i64 (n : Int)) (.int .i64 (n : Int))).run Try.prog w = .ok (.slice (some ⟨w.heap.size, 0, none⟩) n n) (w.alloc (.cells (madeCells #[.bool false, .bool false, .int .i64 0, .int .i64 0] (n * 4)) 83)) := by
  obtain ⟨i0, hi, hz0, hz1, hz2⟩ := tb_info info_tn
  have := run_make (P := Try.prog) w 73 83 i0 _ Try.underlying73 hi hz0 .i64 .i64 n n (by omega) (Int.le_refl _) (by rw [hz2]; omega) (by omega)
  rw [Int.toNat_natCast, hz1] at this
  exact this
theorem make_pn (n : Nat) (hn : n ≤ 1000) (w : World) : (Instr.makeSlice 74 (.int .i64 (n : Int)) (.int .i64 (n : Int))).run Try.prog w = .ok (.slice (some ⟨w.heap.size, 0, none⟩) n n) (w.alloc (.cells (madeCells #[.int .u8 0, .int .i64 0, .bool false] (n * 3)) 78)) := by
  obtain ⟨i0, hi, hz0, hz1, hz2⟩ := tb_info info_pn
  have := run_make (P := Try.prog) w 74 78 i0 _ Try.underlying74 hi hz0 .i64 .i64 n n (by omega) (Int.le_refl _) (by rw [hz2]; omega) (by omega)
  rw [Int.toNat_natCast, hz1] at this
  exact this
theorem made_tn_cells (n i : Nat) (hi : i < n * 4) : (madeCells #[.bool false, .bool false, .int .i64 0, .int .i64 0] (n * 4))[i]? = some (tnV (fun _ => tn0) i) := by
  unfold madeCells
  rw [Array.getElem?_map, Array.getElem?_range, if_pos hi]
  show some ((#[.bool false, .bool false, .int .i64 0, .int .i64 0] : Array Value)[i % 4]!) = some (if i % 4 = 0 then .bool false else if i % 4 = 1 then .bool false else if i % 4 = 2 then .int .i64 0 else .int .i64 0)
  have h4 : i % 4 < 4 := Nat.mod_lt _ (by omega)
  generalize i % 4 = r at *
  have : r = 0 ∨ r = 1 ∨ r = 2 ∨ r = 3 := by omega
  rcases this with rfl | rfl | rfl | rfl <;> rfl
/-- The points behind some rounds of New. -/
def newP (k : Nat) : Nat → PN := fun j => if j < k then ⟨1, 0, false⟩ else ⟨0, 0, false⟩
theorem newP_succ (k : Nat) : newP (k + 1) = fun j => if j = k then { newP k k with sd := 1 } else newP k j := by
  funext j
  unfold newP
  by_cases e : j = k
  · subst e; rw [if_pos (by omega), if_pos rfl, if_neg (by omega)]
  · rw [if_neg e]
    by_cases h : j < k
    · rw [if_pos (by omega), if_pos h]
    · rw [if_neg (by omega), if_neg h]
theorem made_pn_cells (n i : Nat) (hi : i < n * 3) : (madeCells #[.int .u8 0, .int .i64 0, .bool false] (n * 3))[i]? = some (pnV (newP 0) i) := by
  unfold madeCells
  rw [Array.getElem?_map, Array.getElem?_range, if_pos hi]
  show some ((#[.int .u8 0, .int .i64 0, .bool false] : Array Value)[i % 3]!) = some (if i % 3 = 0 then .int .u8 0 else if i % 3 = 1 then .int .i64 0 else .bool false)
  have h4 : i % 3 < 3 := Nat.mod_lt _ (by omega)
  generalize i % 3 = r at *
  have : r = 0 ∨ r = 1 ∨ r = 2 := by omega
  rcases this with rfl | rfl | rfl <;> rfl
theorem new_yd (w w2 W : World) (u : Au) (vp vr : Value) (tb pb g d : Nat) (hA : AutoAt w2 u as0) (hz : w.heap.size ≤ u.w0.heap.size) (hB : Below w2.heap.size w2 W) (hw : Below w.heap.size w w2)
    (h1 : W.heap[tb]? = some (.cells (madeCells #[.bool false, .bool false, .int .i64 0, .int .i64 0] (u.T.rts.length * 4)) 83 (0, 0))) (h2 : W.heap[pb]? = some (.cells (madeCells #[.int .u8 0, .int .i64 0, .bool false] (u.T.pts.length * 3)) 78 (0, 0)))
    (h3 : W.heap[g]? = some (.cells #[.int .i64 u.T.tracks, vp, .int .i64 u.T.sigs, vr, .pointer (some ⟨u.g, 0, none⟩), .int .i64 (d : Int), .int .u32 0, .int .u32 0, .int .u32 0, .int .u32 0, .slice (some ⟨tb, 0, none⟩) u.T.rts.length u.T.rts.length, .slice (some ⟨pb, 0, none⟩) u.T.pts.length u.T.pts.length] 76 (0, 0)))
    (hp : IntsAt w vp u.T.pts) (hr : RtsAt w vr u.T.rts) (e1 : w2.heap.size ≤ tb) (e2 : w2.heap.size ≤ pb) (e3 : w2.heap.size ≤ g) (e4 : g ≠ tb) (e5 : g ≠ pb) (e6 : tb ≠ pb) :
    YdAt W ⟨w, g, tb, pb, d, vp, vr, u⟩ ⟨as0, od0, fun _ => tn0, newP 0⟩ := by
  have b1 := hA.bel.size; have b2 := heap_lt hA.obj; have b3 := hA.rlt; have b4 := hA.pl
  refine ⟨h3, hp, hr, hw.trans (hB.mono hw.size), ?_, ?_, hA.below hB, ⟨hz, Nat.le_trans b1 e3, Nat.le_trans b1 e1, Nat.le_trans b1 e2, e4, e5, e6, ⟨?_, ?_, ?_⟩, ⟨?_, ?_, ?_⟩, ?_, ?_, ?_⟩⟩
  · exact ⟨_, h1, by rw [size_madeCells]; exact Nat.le_refl _, fun i hi => made_tn_cells _ i hi⟩
  · exact ⟨_, h2, by rw [size_madeCells]; exact Nat.le_refl _, fun i hi => made_pn_cells _ i hi⟩
  all_goals (dsimp only; omega)
def YNewP (T : Tab) (d : Int) (w : World) (e : Ending) (w' : World) : Prop :=
  Below w.heap.size w w' ∧ if checkE T = 0 then (if 0 ≤ d ∧ d ≤ 100 then ∃ y, e = .returned (.tuple #[.pointer (some ⟨y.g, 0, none⟩), .int .i64 0]) ∧ YdAt w' y ys0 ∧ y.u.T = T ∧ (y.d : Int) = d ∧ y.w0 = w ∧ y.g < w'.heap.size else e = .returned (.tuple #[.pointer none, .int .i64 2]))
  else e = .returned (.tuple #[.pointer none, .int .i64 (checkE T)])
set_option maxRecDepth 100000 in
set_option maxHeartbeats 8000000 in
theorem ynew_any (v : Value) (T : Tab) (d : Int) (w : World) (hT : TabAt w v T) (hd : i64ok d) (hbig : ∀ r ∈ T.rts, r.pts.length ≤ 1000000) (hTK : checkE T = 0 → TOk T ∧ 0 < T.rts.length) :
    Calls Try.prog 10 #[v, .int .i64 d] w (YNewP T d w) := by
  have hT0 := hT
  obtain ⟨⟨vp, vr, rfl, hP, hr⟩, _, _⟩ := hT
  obtain ⟨a, c, C0, rfl, hlc, hcm, _⟩ := hr.at_
  obtain ⟨⟨va, vc, rfl, hvl, hvm, _⟩, _⟩ := id hP
  have HT := Lib.hid hT0; have HP := Lib.hid hP; have HR := Lib.hid hr
  obtain ⟨w1, hw1⟩ : ∃ w1, w1 = w.alloc (.cells #[.int .i64 T.tracks, .slice va T.pts.length vc, .int .i64 T.sigs, .slice a T.rts.length c] 25) := ⟨_, rfl⟩
  have B1 : Hid (Below w.heap.size w w1) := by rw [hw1]; exact tb_alloc_below _ _
  have K1 : Hid (w1.heap[w.heap.size]? = some (.cells #[.int .i64 T.tracks, .slice va T.pts.length vc, .int .i64 T.sigs, .slice a T.rts.length c] 25 (0, 0))) := by rw [hw1]; exact heap_alloc_new _ _
  have HW1 := Lib.hid hw1
  have HN := Lib.hid (new_any (.agg #[.int .i64 T.tracks, .slice va T.pts.length vc, .int .i64 T.sigs, .slice a T.rts.length c]) T w1 (hT0.below B1.out) hbig hTK)
  have HTK := Lib.hid hTK
  have hd0 := hd.1; have hd1 := hd.2
  unfold maxLen at hcm hvm
  obtain ⟨E, hE⟩ : ∃ E, E = checkE T := ⟨_, rfl⟩
  have HE := Lib.hid hE
  have HPO : Hid (∀ e w', YNewP T d w e w' = (Below w.heap.size w w' ∧ if E = 0 then (if 0 ≤ d ∧ d ≤ 100 then ∃ y, e = .returned (.tuple #[.pointer (some ⟨y.g, 0, none⟩), .int .i64 0]) ∧ YdAt w' y ys0 ∧ y.u.T = T ∧ (y.d : Int) = d ∧ y.w0 = w ∧ y.g < w'.heap.size else e = .returned (.tuple #[.pointer none, .int .i64 2])) else e = .returned (.tuple #[.pointer none, .int .i64 E]))) := fun e w' => by rw [hE]; rfl
  clear hw1 hT0 hP hr hd hbig hTK hE
  go_enter Try.func10, Try.ntmps10
  go_upto_region 1 with fail
  rw [← HW1.out]
  obtain ⟨kb, hkb⟩ : ∃ b, b = w.heap.size := ⟨_, rfl⟩
  have HKB := Lib.hid hkb
  rw [← hkb] at K1 ⊢
  clear hkb HW1
  have c0 := cell_row (j := 0) K1.out rfl; have c1 := cell_row (j := 1) K1.out rfl; have c2 := cell_row (j := 2) K1.out rfl; have c3 := cell_row (j := 3) K1.out rfl
  have lk := heap_lt K1.out
  go_wp2_with fail
  refine HN.out.mono ?_
  rintro e w2 ⟨hb2, hif⟩
  rw [← HE.out] at hif
  have B12 := Lib.hid hb2
  have B2 : Hid (Below w.heap.size w w2) := B1.out.trans (hb2.mono B1.out.size)
  have K2 := Lib.hid (tb_kept K1.out hb2)
  clear c0 c1 c2 c3 lk hb2 HN
  by_cases hE0 : E = 0
  case neg =>
    rw [if_neg hE0] at hif
    subst hif
    have HPN : Hid (∀ w', Below w.heap.size w w' → YNewP T d w (.returned (.tuple #[.pointer none, .int .i64 E])) w') := fun w' h => by rw [HPO.out, if_neg hE0]; exact ⟨h, rfl⟩
    have t1 : (E == 0) = false := by simpa using hE0
    have t2 : (E != 0) = true := by simpa using hE0
    clear hE0 HPO
    go_wp2_with fail
    go_ret2
    exact HPN.out _ B2.out
  case pos =>
  rw [if_pos hE0] at hif
  obtain ⟨u, rfl, hA, huT, huz, _⟩ := hif
  subst huT
  have HTT := Lib.hid (HTK.out (by rw [← HE.out]; exact hE0)).1
  have A2 := Lib.hid hA; have UZ := Lib.hid (Nat.le_trans B1.out.size huz)
  clear hA huz
  by_cases hd2 : 0 ≤ d ∧ d ≤ 100
  case neg =>
    have HPN : Hid (∀ w', Below w.heap.size w w' → YNewP u.T d w (.returned (.tuple #[.pointer none, .int .i64 2])) w') := fun w' h => by rw [HPO.out, if_pos hE0, if_neg hd2]; exact ⟨h, rfl⟩
    clear hE0 HPO
    by_cases h0 : d < 0
    case pos =>
      have t1 : decide (d < 0) = true := decide_eq_true h0
      clear hd2
      go_wp2_with fail
      go_ret2
      exact HPN.out _ B2.out
    case neg =>
      have t1 : decide (d < 0) = false := decide_eq_false h0
      have t2 : decide ((100 : Int) < d) = true := decide_eq_true (by omega)
      clear hd2
      go_wp2_with fail
      go_ret2
      exact HPN.out _ B2.out
  case pos =>
  obtain ⟨n, rfl⟩ := Int.eq_ofNat_of_zero_le hd2.1
  have HPN : Hid (∀ y w', Below w.heap.size w w' → YdAt w' y ys0 → y.u.T = u.T → y.d = n → y.w0 = w → YNewP u.T n w (.returned (.tuple #[.pointer (some ⟨y.g, 0, none⟩), .int .i64 0])) w') := fun y w' h1 h2 h3 h4 h5 => by rw [HPO.out, if_pos hE0, if_pos hd2]; exact ⟨h1, y, rfl, h2, h3, by rw [h4], h5, heap_lt h2.obj⟩
  have t1 : decide ((n : Int) < 0) = false := decide_eq_false (by omega)
  have t2 : decide ((100 : Int) < (n : Int)) = false := decide_eq_false (by omega)
  clear hE0 HPO hd2
  have hN := HTT.out.n; have hM := HTT.out.p
  have hmk1 := fun w => make_tn u.T.rts.length (by omega) w
  have hmk2 := fun w => make_pn u.T.pts.length (by omega) w
  have HSV : Hid (∀ W, Below w2.heap.size w2 W → (W.cell? ⟨kb, 0, none⟩ = some (.int .i64 u.T.tracks) ∧ W.cell? ⟨kb, 1, none⟩ = some (.slice va u.T.pts.length vc) ∧ W.cell? ⟨kb, 2, none⟩ = some (.int .i64 u.T.sigs) ∧ W.cell? ⟨kb, 3, none⟩ = some (.slice a u.T.rts.length c)) ∧ kb < W.heap.size) := fun W hW => by
    have h1 := tb_kept K2.out hW
    exact ⟨⟨cell_row h1 rfl, cell_row h1 rfl, cell_row h1 rfl, cell_row h1 rfl⟩, heap_lt h1⟩
  have BD : Hid (Below w2.heap.size w2 w2.drew) := (Below.refl _ _).drew
  have HEND : Hid (∀ W tb pb g, Below w2.heap.size w2 W → W.heap[tb]? = some (.cells (madeCells #[.bool false, .bool false, .int .i64 0, .int .i64 0] (u.T.rts.length * 4)) 83 (0, 0)) → W.heap[pb]? = some (.cells (madeCells #[.int .u8 0, .int .i64 0, .bool false] (u.T.pts.length * 3)) 78 (0, 0)) →
    W.heap[g]? = some (.cells #[.int .i64 u.T.tracks, .slice va u.T.pts.length vc, .int .i64 u.T.sigs, .slice a u.T.rts.length c, .pointer (some ⟨u.g, 0, none⟩), .int .i64 (n : Int), .int .u32 0, .int .u32 0, .int .u32 0, .int .u32 0, .slice (some ⟨tb, 0, none⟩) u.T.rts.length u.T.rts.length, .slice (some ⟨pb, 0, none⟩) u.T.pts.length u.T.pts.length] 76 (0, 0)) →
    w2.heap.size ≤ tb → w2.heap.size ≤ pb → w2.heap.size ≤ g → g ≠ tb → g ≠ pb → tb ≠ pb → YdAt W.drew ⟨w, g, tb, pb, n, .slice va u.T.pts.length vc, .slice a u.T.rts.length c, u⟩ ⟨as0, od0, fun _ => tn0, newP 0⟩ ∧ Below w.heap.size w W.drew) := fun W tb pb g hB h1 h2 h3 e1 e2 e3 e4 e5 e6 =>
    ⟨(new_yd w w2 W u _ _ tb pb g n A2.out UZ.out hB B2.out h1 h2 h3 HP.out HR.out e1 e2 e3 e4 e5 e6).below ⟨rfl, rfl, rfl, Nat.le_refl _, fun _ _ => rfl⟩, (B2.out.trans (hB.mono B2.out.size)).drew⟩
  go_upto_region 6 with fail
  go_region_held3 (fun W => (W.cell? ⟨kb, 0, none⟩ = some (.int .i64 u.T.tracks) ∧ W.cell? ⟨kb, 1, none⟩ = some (.slice va u.T.pts.length vc) ∧ W.cell? ⟨kb, 2, none⟩ = some (.int .i64 u.T.sigs) ∧ W.cell? ⟨kb, 3, none⟩ = some (.slice a u.T.rts.length c)) ∧ kb < W.heap.size)
    (first | exact HSV.out _ (Below.alloc' (Below.alloc' (Below.alloc' BD.out _) _) _) | exact HSV.out _ (Below.alloc' (Below.alloc' BD.out _) _) | exact HSV.out _ (Below.alloc' BD.out _) | exact HSV.out _ BD.out)
    (fail)
  · rename_i hheld
    clear hheld hmk1 hmk2
    obtain ⟨W, hW, k0, k1, k2, hz, hb⟩ := alloc3 w2 (madeCells #[.bool false, .bool false, .int .i64 0, .int .i64 0] (u.T.rts.length * 4)) (madeCells #[.int .u8 0, .int .i64 0, .bool false] (u.T.pts.length * 3)) #[.int .i64 u.T.tracks, .slice va u.T.pts.length vc, .int .i64 u.T.sigs, .slice a u.T.rts.length c, .pointer (some ⟨u.g, 0, none⟩), .int .i64 (n : Int), .int .u32 0, .int .u32 0, .int .u32 0, .int .u32 0, .slice (some ⟨w2.heap.size, 0, none⟩) u.T.rts.length u.T.rts.length, .slice (some ⟨w2.heap.size + 1, 0, none⟩) u.T.pts.length u.T.pts.length] 83 78 76
    obtain ⟨hYD, hBW⟩ := HEND.out W w2.heap.size (w2.heap.size + 1) (w2.heap.size + 1 + 1) hb k0 k1 k2 (by omega) (by omega) (by omega) (by omega) (by omega) (by omega)
    obtain ⟨y, hy⟩ : ∃ y, y = (⟨w, w2.heap.size + 1 + 1, w2.heap.size, w2.heap.size + 1, n, .slice va u.T.pts.length vc, .slice a u.T.rts.length c, u⟩ : Yd) := ⟨_, rfl⟩
    rw [← hy] at hYD
    have hg : w2.heap.size + 1 + 1 = y.g := by rw [hy]
    have huu : y.u = u := by rw [hy]
    have hdd : y.d = n := by rw [hy]
    have hw0 : y.w0 = w := by rw [hy]
    rw [← hW, hg]
    have HUU := Lib.hid huu; have HDD := Lib.hid hdd; have HW0 := Lib.hid hw0
    have Y3 := Lib.hid hYD; have B3 := Lib.hid hBW
    obtain ⟨w3, hw3⟩ : ∃ x, x = W.drew := ⟨_, rfl⟩
    rw [← hw3] at Y3 B3 ⊢
    clear hy hW k0 k1 k2 hz hb hg huu hdd hw0 hYD hBW hw3
    obtain ⟨m, hm⟩ : ∃ m, m = y.u.T.pts.length := ⟨_, rfl⟩
    have HM := Lib.hid hm
    have gB := cell_row (j := 11) Y3.out.obj rfl
    have lg := heap_lt Y3.out.obj
    have hm12 : m ≤ 12 := by rw [hm, HUU.out]; exact hM
    rw [← hm] at gB
    clear hm
    go_upto_region 8 with fail
    clear gB lg
    go_loopw [44] (fun i wr => ∃ k : Nat, k ≤ m ∧ i = .int .i64 k ∧ YdAt wr y ⟨as0, od0, fun _ => tn0, newP k⟩ ∧ Below w.heap.size w wr) (fun i _ => m - (intOf i).toNat)
    case atStart => exact ⟨0, Nat.zero_le _, rfl, Y3.out, B3.out⟩
    case round =>
      clear Y3 B3
      obtain ⟨k, hk, rfl, h4, hb4⟩ := hrel
      have Y4 := Lib.hid h4; have B4 := Lib.hid hb4
      clear h4 hb4
      obtain ⟨w4, rfl⟩ : ∃ w4 : World, w4 = wr := ⟨_, rfl⟩
      by_cases hlt : k < m
      case pos =>
        have HLT : Hid (k < y.u.T.pts.length) := by rw [← HM.out]; exact hlt
        have gB := cell_row (j := 11) Y4.out.obj rfl
        rw [← HM.out] at gB
        have lg := heap_lt Y4.out.obj
        obtain ⟨p0, _, _, pf⟩ := Y4.out.pcell HLT.out
        have pf0 := pf (k * 3)
        have lp := Y4.out.ps.lt
        have Y5 : Hid (YdAt (w4.setCell ⟨y.pb, k * 3, none⟩ (.int .u8 1)) y ⟨as0, od0, fun _ => tn0, newP (k + 1)⟩) := by
          have h := Y4.out.set_sd k 1
          show YdAt _ _ _
          rw [newP_succ]
          exact h
        have B5 : Hid (Below w.heap.size w (w4.setCell ⟨y.pb, k * 3, none⟩ (.int .u8 1))) := B4.out.setCell (p := ⟨y.pb, k * 3, none⟩) (by
          have h1 := Y4.out.ap.p0; have h2 := Y4.out.ap.z; have h3 := HW0.out
          rw [h3] at h2
          exact Nat.le_trans h2 h1) _
        clear pf
        go_wp2_with fail
        go_roundw
        case rel => exact ⟨k + 1, by omega, by go_num, Y5.out, B5.out⟩
        case measure => simp [intOf]; omega
      case neg =>
      obtain rfl : m = k := by omega
      have Y5 : Hid (YdAt w4 y ys0) := Y4.out.pn_congr (fun j hj => if_pos (by rw [HM.out]; exact hj))
      go_wp2_with fail
      go_ret2
      exact HPN.out y _ B4.out Y5.out (by rw [HUU.out]) HDD.out HW0.out
  · rename_i hheld
    clear hheld hmk1 hmk2
    obtain ⟨W, hW, k0, k1, k2, hz, hb⟩ := alloc3 w2 (madeCells #[.int .u8 0, .int .i64 0, .bool false] (u.T.pts.length * 3)) (madeCells #[.bool false, .bool false, .int .i64 0, .int .i64 0] (u.T.rts.length * 4)) #[.int .i64 u.T.tracks, .slice va u.T.pts.length vc, .int .i64 u.T.sigs, .slice a u.T.rts.length c, .pointer (some ⟨u.g, 0, none⟩), .int .i64 (n : Int), .int .u32 0, .int .u32 0, .int .u32 0, .int .u32 0, .slice (some ⟨w2.heap.size + 1, 0, none⟩) u.T.rts.length u.T.rts.length, .slice (some ⟨w2.heap.size, 0, none⟩) u.T.pts.length u.T.pts.length] 78 83 76
    obtain ⟨hYD, hBW⟩ := HEND.out W (w2.heap.size + 1) w2.heap.size (w2.heap.size + 1 + 1) hb k1 k0 k2 (by omega) (by omega) (by omega) (by omega) (by omega) (by omega)
    obtain ⟨y, hy⟩ : ∃ y, y = (⟨w, w2.heap.size + 1 + 1, w2.heap.size + 1, w2.heap.size, n, .slice va u.T.pts.length vc, .slice a u.T.rts.length c, u⟩ : Yd) := ⟨_, rfl⟩
    rw [← hy] at hYD
    have hg : w2.heap.size + 1 + 1 = y.g := by rw [hy]
    have huu : y.u = u := by rw [hy]
    have hdd : y.d = n := by rw [hy]
    have hw0 : y.w0 = w := by rw [hy]
    rw [← hW, hg]
    have HUU := Lib.hid huu; have HDD := Lib.hid hdd; have HW0 := Lib.hid hw0
    have Y3 := Lib.hid hYD; have B3 := Lib.hid hBW
    obtain ⟨w3, hw3⟩ : ∃ x, x = W.drew := ⟨_, rfl⟩
    rw [← hw3] at Y3 B3 ⊢
    clear hy hW k0 k1 k2 hz hb hg huu hdd hw0 hYD hBW hw3
    obtain ⟨m, hm⟩ : ∃ m, m = y.u.T.pts.length := ⟨_, rfl⟩
    have HM := Lib.hid hm
    have gB := cell_row (j := 11) Y3.out.obj rfl
    have lg := heap_lt Y3.out.obj
    have hm12 : m ≤ 12 := by rw [hm, HUU.out]; exact hM
    rw [← hm] at gB
    clear hm
    go_upto_region 8 with fail
    clear gB lg
    go_loopw [44] (fun i wr => ∃ k : Nat, k ≤ m ∧ i = .int .i64 k ∧ YdAt wr y ⟨as0, od0, fun _ => tn0, newP k⟩ ∧ Below w.heap.size w wr) (fun i _ => m - (intOf i).toNat)
    case atStart => exact ⟨0, Nat.zero_le _, rfl, Y3.out, B3.out⟩
    case round =>
      clear Y3 B3
      obtain ⟨k, hk, rfl, h4, hb4⟩ := hrel
      have Y4 := Lib.hid h4; have B4 := Lib.hid hb4
      clear h4 hb4
      obtain ⟨w4, rfl⟩ : ∃ w4 : World, w4 = wr := ⟨_, rfl⟩
      by_cases hlt : k < m
      case pos =>
        have HLT : Hid (k < y.u.T.pts.length) := by rw [← HM.out]; exact hlt
        have gB := cell_row (j := 11) Y4.out.obj rfl
        rw [← HM.out] at gB
        have lg := heap_lt Y4.out.obj
        obtain ⟨p0, _, _, pf⟩ := Y4.out.pcell HLT.out
        have pf0 := pf (k * 3)
        have lp := Y4.out.ps.lt
        have Y5 : Hid (YdAt (w4.setCell ⟨y.pb, k * 3, none⟩ (.int .u8 1)) y ⟨as0, od0, fun _ => tn0, newP (k + 1)⟩) := by
          have h := Y4.out.set_sd k 1
          show YdAt _ _ _
          rw [newP_succ]
          exact h
        have B5 : Hid (Below w.heap.size w (w4.setCell ⟨y.pb, k * 3, none⟩ (.int .u8 1))) := B4.out.setCell (p := ⟨y.pb, k * 3, none⟩) (by
          have h1 := Y4.out.ap.p0; have h2 := Y4.out.ap.z; have h3 := HW0.out
          rw [h3] at h2
          exact Nat.le_trans h2 h1) _
        clear pf
        go_wp2_with fail
        go_roundw
        case rel => exact ⟨k + 1, by omega, by go_num, Y5.out, B5.out⟩
        case measure => simp [intOf]; omega
      case neg =>
      obtain rfl : m = k := by omega
      have Y5 : Hid (YdAt w4 y ys0) := Y4.out.pn_congr (fun j hj => if_pos (by rw [HM.out]; exact hj))
      go_wp2_with fail
      go_ret2
      exact HPN.out y _ B4.out Y5.out (by rw [HUU.out]) HDD.out HW0.out
end Go.Proofs.Ytnjeiigdfdjccaa
