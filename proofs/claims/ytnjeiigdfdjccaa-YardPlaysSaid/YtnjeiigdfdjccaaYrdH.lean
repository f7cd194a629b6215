/- Clear, and what the automaton is fed. -/
import Derived.Test.YtnjeiigdfdjccaaYrdD
import Derived.Test.YtnjeiigdfdjccaaYrdE
import Derived.Test.YtnjeiigdfdjccaaYrdPl
namespace Go.Proofs.Ytnjeiigdfdjccaa
open Go.RowKit
set_option linter.unusedVariables false
set_option linter.unusedSimpArgs false
/-- Trains stand within their routes. -/
def OnOk (T : Tab) (tn : Nat → TN) : Prop := ∀ n, n < T.rts.length → (tn n).is = true → (tn n).tl ≤ (tn n).hd ∧ (tn n).hd < (T.rts.getD n rt0).tr.length
def FD.val (f : FD) : Value := .agg #[.int .u32 (f.cl : Int), .int .u32 (f.no : Int), .int .u32 (f.re : Int), .int .u32 (f.ak : Int), .int .u32 (f.ca : Int), .int .u32 (f.rq : Int)]
theorem clN_lt (T : Tab) (tn : Nat → TN) : ∀ k, clN T tn k < 2 ^ k
  | 0 => by simp [clN]
  | k + 1 => by
    have ih := clN_lt T tn k
    have h2 : 2 ^ k < 2 ^ (k + 1) := Nat.pow_lt_pow_right (by omega) (by omega)
    unfold clN
    split
    · exact Nat.or_lt_two_pow (by omega) h2
    · omega
theorem fnN_lt (pn : Nat → PN) : ∀ k, fnN pn k < 2 ^ k
  | 0 => by simp [fnN]
  | k + 1 => by
    have ih := fnN_lt pn k
    have h2 : 2 ^ k < 2 ^ (k + 1) := Nat.pow_lt_pow_right (by omega) (by omega)
    unfold fnN
    split
    · exact Nat.or_lt_two_pow (by omega) h2
    · omega
theorem frN_lt (pn : Nat → PN) : ∀ k, frN pn k < 2 ^ k
  | 0 => by simp [frN]
  | k + 1 => by
    have ih := frN_lt pn k
    have h2 : 2 ^ k < 2 ^ (k + 1) := Nat.pow_lt_pow_right (by omega) (by omega)
    unfold frN
    split
    · exact Nat.or_lt_two_pow (by omega) h2
    · omega
theorem lt32 {x k : Nat} (h : x < 2 ^ k) (hk : k ≤ 32) : x < 4294967296 := Nat.lt_of_lt_of_le h (Nat.le_trans (Nat.pow_le_pow_right (by omega) hk) (by decide))
set_option maxRecDepth 100000 in
set_option maxHeartbeats 4000000 in
theorem yclear_any (y : Yd) (Y : YS) (x : Int) (w : World) (H : YdAt w y Y) (hT : TOk y.u.T) (hx : OnOk y.u.T Y.tn) :
    Calls Try.prog 12 #[.pointer (some ⟨y.g, 0, none⟩), .int .i64 x] w fun e w' => e = .returned (.bool (clearB y.u.T Y.tn x)) ∧ Below w.heap.size w w' := by
  have HO := Lib.hid (yon_any y Y x w H hT hx)
  have g0 := cell_row (j := 0) H.obj rfl
  have lg := heap_lt H.obj
  have HC : Hid (clearB y.u.T Y.tn x = (decide (0 ≤ x) && (decide (x < y.u.T.tracks) && onN y.u.T Y.tn x y.u.T.rts.length == 0))) := rfl
  generalize clearB y.u.T Y.tn x = F at *
  generalize onN y.u.T Y.tn x y.u.T.rts.length = N at *
  generalize y.u.T.tracks = tk at *
  clear H hT hx
  by_cases h0 : 0 ≤ x
  case neg =>
    have d0 : decide ((0 : Int) ≤ x) = false := decide_eq_false h0
    have hF : Hid (F = false) := by show _ = _; rw [HC.out, d0]; rfl
    go_enter Try.func12, Try.ntmps12
    go_wp2_with fail
    go_ret
    exact ⟨congrArg (fun b => Ending.returned (.bool b)) hF.out.symm, Below.refl _ _⟩
  case pos =>
  have d0 : decide ((0 : Int) ≤ x) = true := decide_eq_true h0
  by_cases h1 : x < tk
  case neg =>
    have d1 : decide (x < tk) = false := decide_eq_false h1
    have hF : Hid (F = false) := by show _ = _; rw [HC.out, d0, d1]; rfl
    go_enter Try.func12, Try.ntmps12
    go_wp2_with fail
    go_ret
    exact ⟨congrArg (fun b => Ending.returned (.bool b)) hF.out.symm, Below.refl _ _⟩
  case pos =>
  have d1 : decide (x < tk) = true := decide_eq_true h1
  have hF : Hid (F = (N == 0)) := by show _ = _; rw [HC.out, d0, d1]; rfl
  go_enter Try.func12, Try.ntmps12
  go_wp2_with fail
  refine HO.out.mono ?_
  rintro e w2 ⟨rfl, hb⟩
  have B2 := Lib.hid hb
  clear hb g0 lg
  by_cases hN : N = 0
  case pos =>
    have hF2 : Hid (F = true) := by show _ = _; rw [hF.out, hN]; rfl
    have n0 : ((N : Int) == 0) = true := by rw [hN]; rfl
    clear hN
    go_wp2_with fail
    go_ret
    exact ⟨congrArg (fun b => Ending.returned (.bool b)) hF2.out.symm, B2.out⟩
  case neg =>
    have hF2 : Hid (F = false) := by show _ = _; rw [hF.out]; simpa using hN
    have n0 : ((N : Int) == 0) = false := by simpa using (show ¬ (N : Int) = 0 by omega)
    clear hN
    go_wp2_with fail
    go_ret
    exact ⟨congrArg (fun b => Ending.returned (.bool b)) hF2.out.symm, B2.out⟩
theorem yclear_nil (x : Int) (w : World) : Calls Try.prog 12 #[.pointer none, .int .i64 x] w fun e w' => e = .returned (.bool false) ∧ Below w.heap.size w w' := by
  go_enter Try.func12, Try.ntmps12
  go_wp2_with fail
  go_ret
  exact ⟨rfl, Below.refl _ _⟩
set_option maxRecDepth 100000 in
set_option maxHeartbeats 8000000 in
theorem yfeeds_any (y : Yd) (Y : YS) (f : FD) (w : World) (H : YdAt w y Y) (hT : TOk y.u.T) (htk : 0 ≤ y.u.T.tracks ∧ y.u.T.tracks ≤ 24) (hx : OnOk y.u.T Y.tn) (hp : ∀ p, (Y.pn p).sd < 256 ∧ (Y.pn p).lf ≤ 101) (hf : f.cl = 0 ∧ f.no = 0 ∧ f.re = 0) :
    Calls Try.prog 31 #[.pointer (some ⟨y.g, 0, none⟩), f.val] w fun e w' => e = .returned (feedsF y.u.T Y f).val ∧ Below w.heap.size w w' := by
  obtain ⟨tk, htk1⟩ := Int.eq_ofNat_of_zero_le htk.1
  obtain ⟨cl, no, re, ak, ca, rq⟩ := f
  obtain ⟨e1, e2, e3⟩ := hf
  dsimp only at e1 e2 e3
  subst e1; subst e2; subst e3
  show Calls _ _ #[_, .agg #[.int .u32 0, .int .u32 0, .int .u32 0, .int .u32 (ak : Int), .int .u32 (ca : Int), .int .u32 (rq : Int)]] _ _
  have HY := Lib.hid H; have HT := Lib.hid hT; have HX := Lib.hid hx; have HP := Lib.hid hp
  have HF : Hid ((feedsF y.u.T Y ⟨0, 0, 0, ak, ca, rq⟩).val = .agg #[.int .u32 (clN y.u.T Y.tn tk : Int), .int .u32 (fnN Y.pn y.u.T.pts.length : Int), .int .u32 (frN Y.pn y.u.T.pts.length : Int), .int .u32 (ak : Int), .int .u32 (ca : Int), .int .u32 (rq : Int)]) := by
    show _ = _
    unfold feedsF FD.val
    rw [htk1]; rfl
  rw [HF.out]
  obtain ⟨w1, hw1⟩ : ∃ w1, w1 = w.alloc (.cells #[.int .u32 0, .int .u32 0, .int .u32 0, .int .u32 (ak : Int), .int .u32 (ca : Int), .int .u32 (rq : Int)] 85) := ⟨_, rfl⟩
  have B1 : Hid (Below w.heap.size w w1) := by rw [hw1]; exact tb_alloc_below _ _
  have K1 : Hid (w1.heap[w.heap.size]? = some (.cells #[.int .u32 ((0 : Nat) : Int), .int .u32 ((0 : Nat) : Int), .int .u32 ((0 : Nat) : Int), .int .u32 (ak : Int), .int .u32 (ca : Int), .int .u32 (rq : Int)] 85 (0, 0))) := by rw [hw1]; exact heap_alloc_new _ _
  have S1 : Hid (w1.heap.size = w.heap.size + 1) := by show _ = _; rw [hw1]; show (Array.push _ _).size = _; rw [Array.size_push]
  obtain ⟨w2, hw2⟩ : ∃ w2, w2 = w1.alloc (.cells #[.int .u32 0, .int .u32 0, .int .u32 0, .int .u32 0, .int .u32 0, .int .u32 0] 85) := ⟨_, rfl⟩
  have B12 : Hid (Below w1.heap.size w1 w2) := by rw [hw2]; exact tb_alloc_below _ _
  have R2 : Hid (w2.heap[w1.heap.size]? = some (.cells #[.int .u32 0, .int .u32 0, .int .u32 0, .int .u32 0, .int .u32 0, .int .u32 0] 85 (0, 0))) := by rw [hw2]; exact heap_alloc_new _ _
  have K2 := Lib.hid (tb_kept K1.out B12.out)
  have B2 : Hid (Below w.heap.size w w2) := B1.out.trans (B12.out.mono B1.out.size)
  have HW1 := Lib.hid hw1; have HW2 := Lib.hid hw2
  have hN := hT.n; have hPn := hT.p
  have hk24 : tk ≤ 24 := by omega
  have HTK := Lib.hid htk1
  have HG : Hid (y.g < w.heap.size ∧ y.pb < w.heap.size) := ⟨heap_lt H.obj, H.ps.lt⟩
  clear hw1 hw2 K1 B12 H hT hx hp htk htk1 HF
  go_enter Try.func31, Try.ntmps31
  go_upto_region 1 with fail
  rw [← HW1.out, ← HW2.out]
  clear HW1 HW2 B1
  rw [S1.out] at R2
  obtain ⟨fb, hfb⟩ : ∃ b, b = w.heap.size := ⟨_, rfl⟩
  have HFB := Lib.hid hfb
  rw [← hfb] at K2 R2 ⊢
  clear hfb S1
  obtain ⟨rb, hrb⟩ : ∃ b, b = fb + 1 := ⟨_, rfl⟩
  rw [← hrb] at R2 ⊢
  have HRB := Lib.hid hrb
  have g0 : w2.cell? ⟨y.g, 0, none⟩ = some (.int .i64 (tk : Int)) := by rw [← HTK.out]; exact cell_row (j := 0) (HY.out.below B2.out).obj rfl
  have lg := heap_lt (HY.out.below B2.out).obj
  clear hrb
  have HN0 := Lib.hid (show y.u.T.rts.length ≤ 16 from hN); have HN1 := Lib.hid (show y.u.T.pts.length ≤ 12 from hPn)
  go_upto_region 2 with fail
  clear g0 lg
  go_loopw [13] (fun i wr => ∃ k : Nat, k ≤ tk ∧ i = .int .i64 k ∧ wr.heap[fb]? = some (.cells #[.int .u32 ((clN y.u.T Y.tn k : Nat) : Int), .int .u32 ((0 : Nat) : Int), .int .u32 ((0 : Nat) : Int), .int .u32 (ak : Int), .int .u32 (ca : Int), .int .u32 (rq : Int)] 85 (0, 0)) ∧ wr.heap[rb]? = some (.cells #[.int .u32 0, .int .u32 0, .int .u32 0, .int .u32 0, .int .u32 0, .int .u32 0] 85 (0, 0)) ∧ Below w.heap.size w wr) (fun i _ => tk - (intOf i).toNat)
  case atStart => exact ⟨0, Nat.zero_le _, rfl, K2.out, R2.out, B2.out⟩
  case round =>
    clear K2 R2 B2
    obtain ⟨k, hk, rfl, hk3, hr3, hb3⟩ := hrel
    have K3 := Lib.hid hk3; have R3 := Lib.hid hr3; have B3 := Lib.hid hb3
    clear hk3 hr3 hb3
    obtain ⟨w3, rfl⟩ : ∃ w3 : World, w3 = wr := ⟨_, rfl⟩
    by_cases hlt : k < tk
    case pos =>
      have HC := Lib.hid (yclear_any y Y (k : Int) w3 (HY.out.below B3.out) HT.out HX.out)
      have HNX : Hid (clN y.u.T Y.tn (k + 1) = if clearB y.u.T Y.tn (k : Int) then clN y.u.T Y.tn k ||| 2 ^ k else clN y.u.T Y.tn k) := rfl
      have HLT := Lib.hid (lt32 (clN_lt y.u.T Y.tn k) (by omega))
      generalize clearB y.u.T Y.tn (k : Int) = c at *
      go_wp2_with fail
      refine HC.out.mono ?_
      rintro e w4 ⟨rfl, hb⟩
      have K4 := Lib.hid (tb_kept K3.out hb); have R4 := Lib.hid (tb_kept R3.out hb)
      have B4 : Hid (Below w.heap.size w w4) := B3.out.trans (hb.mono B3.out.size)
      clear hb HC K3 R3 B3
      cases c
      case false =>
        have hx1 : Hid (clN y.u.T Y.tn (k + 1) = clN y.u.T Y.tn k) := HNX.out
        go_wp2_with fail
        go_roundw
        case rel => exact ⟨k + 1, by omega, by go_num, by rw [hx1.out]; exact K4.out, R4.out, B4.out⟩
        case measure => simp [intOf]; omega
      case true =>
        have hx1 : Hid (clN y.u.T Y.tn (k + 1) = clN y.u.T Y.tn k ||| 2 ^ k) := HNX.out
        have y0 := cell_row (j := 0) K4.out rfl
        have y0f : w4.frozen? ⟨fb, 0, none⟩ = false := frozen_of_row _ _ _ _ _ K4.out
        have lf := heap_lt K4.out
        go_upto_region 5 with fail
        go_region
        rw [or_bit _ k HLT.out (by omega)]
        have K5 : Hid ((w4.setCell ⟨fb, 0, none⟩ (.int .u32 ((clN y.u.T Y.tn k ||| 2 ^ k : Nat) : Int))).drew.heap[fb]? = _) := heap_setCell_same w4 fb 0 _ _ (.int .u32 ((clN y.u.T Y.tn k ||| 2 ^ k : Nat) : Int)) K4.out
        have R5 : Hid ((w4.setCell ⟨fb, 0, none⟩ (.int .u32 ((clN y.u.T Y.tn k ||| 2 ^ k : Nat) : Int))).drew.heap[rb]? = _) := (heap_setCell_other _ _ _ _ (by have := HRB.out; show ¬ _ = _; dsimp only; omega)).trans R4.out
        have B5 : Hid (Below w.heap.size w (w4.setCell ⟨fb, 0, none⟩ (.int .u32 ((clN y.u.T Y.tn k ||| 2 ^ k : Nat) : Int))).drew) := (B4.out.setCell (p := ⟨fb, 0, none⟩) (Nat.le_of_eq HFB.out.symm) _).drew
        generalize (w4.setCell ⟨fb, 0, none⟩ (.int .u32 ((clN y.u.T Y.tn k ||| 2 ^ k : Nat) : Int))).drew = w5 at *
        clear y0 y0f lf K4 R4 B4
        go_wp2_with fail
        go_roundw
        case rel => exact ⟨k + 1, by omega, by go_num, by rw [hx1.out]; exact K5.out, R5.out, B5.out⟩
        case measure => simp [intOf]; omega
    case neg =>
    obtain rfl : tk = k := by omega
    have gB := cell_row (j := 11) (HY.out.below B3.out).obj rfl
    have lg := heap_lt (HY.out.below B3.out).obj
    go_upto_region 8 with fail
    clear gB lg
    obtain ⟨m, hm⟩ : ∃ m, m = y.u.T.pts.length := ⟨_, rfl⟩
    have HM := Lib.hid hm
    rw [← hm] at hPn ⊢
    clear hm
    go_loopw [31] (fun i wr => ∃ k : Nat, k ≤ m ∧ i = .int .i64 k ∧ wr.heap[fb]? = some (.cells #[.int .u32 ((clN y.u.T Y.tn tk : Nat) : Int), .int .u32 ((fnN Y.pn k : Nat) : Int), .int .u32 ((frN Y.pn k : Nat) : Int), .int .u32 (ak : Int), .int .u32 (ca : Int), .int .u32 (rq : Int)] 85 (0, 0)) ∧ wr.heap[rb]? = some (.cells #[.int .u32 0, .int .u32 0, .int .u32 0, .int .u32 0, .int .u32 0, .int .u32 0] 85 (0, 0)) ∧ Below w.heap.size w wr) (fun i _ => m - (intOf i).toNat)
    case atStart => exact ⟨0, Nat.zero_le _, rfl, K3.out, R3.out, B3.out⟩
    case round =>
      clear K3 R3 B3
      obtain ⟨k, hk, rfl, hk3, hr3, hb3⟩ := hrel
      have K3 := Lib.hid hk3; have R3 := Lib.hid hr3; have B3 := Lib.hid hb3
      clear hk3 hr3 hb3
      obtain ⟨w3, rfl⟩ : ∃ w3 : World, w3 = wr := ⟨_, rfl⟩
      by_cases hlt : k < m
      case neg =>
        obtain rfl : m = k := by omega
        have y0 := cell_row (j := 0) K3.out rfl; have y1 := cell_row (j := 1) K3.out rfl; have y2 := cell_row (j := 2) K3.out rfl; have y3 := cell_row (j := 3) K3.out rfl; have y4 := cell_row (j := 4) K3.out rfl; have y5 := cell_row (j := 5) K3.out rfl
        have z0 := cell_row (j := 0) R3.out rfl; have z1 := cell_row (j := 1) R3.out rfl; have z2 := cell_row (j := 2) R3.out rfl; have z3 := cell_row (j := 3) R3.out rfl; have z4 := cell_row (j := 4) R3.out rfl; have z5 := cell_row (j := 5) R3.out rfl
        have zf : ∀ o, w3.frozen? ⟨rb, o, none⟩ = false := fun o => frozen_of_row _ _ _ _ _ R3.out
        have zf0 := zf 0; have zf1 := zf 1; have zf2 := zf 2; have zf3 := zf 3; have zf4 := zf 4; have zf5 := zf 5
        have lf := heap_lt K3.out; have lr := heap_lt R3.out
        go_wp2_with fail
        have hs : ∀ (W : World) (j : Nat) (v : Value), Below w.heap.size w W → Below w.heap.size w (W.setCell ⟨rb, j, none⟩ v) := fun W j v h => h.setCell (p := ⟨rb, j, none⟩) (by have := HRB.out; have := HFB.out; show _ ≤ rb; omega) v
        exact bodyPost_ret (v := .agg #[.int .u32 (clN y.u.T Y.tn tk : Int), .int .u32 (fnN Y.pn y.u.T.pts.length : Int), .int .u32 (frN Y.pn y.u.T.pts.length : Int), .int .u32 (ak : Int), .int .u32 (ca : Int), .int .u32 (rq : Int)]) (by rw [← HM.out]; simp [results, Try.results31, go_sem, z0, z1, z2, z3, z4, z5, lr]) rfl ⟨rfl, hs _ _ _ (hs _ _ _ (hs _ _ _ (hs _ _ _ (hs _ _ _ (hs _ _ _ B3.out)))))⟩
      case pos =>
      have H3 := Lib.hid (HY.out.below B3.out)
      have HLT : Hid (k < y.u.T.pts.length) := by rw [← HM.out]; exact hlt
      obtain ⟨p0, p1, p2, _⟩ := H3.out.pcell HLT.out
      have lp := H3.out.ps.lt
      have hpk := HP.out k
      have HN1 : Hid (fnN Y.pn (k + 1) = if stillB (Y.pn k) && (Y.pn k).sd == 1 then fnN Y.pn k ||| 2 ^ k else fnN Y.pn k) := rfl
      have HN2 : Hid (frN Y.pn (k + 1) = if stillB (Y.pn k) && (Y.pn k).sd != 1 then frN Y.pn k ||| 2 ^ k else frN Y.pn k) := rfl
      have HL1 := Lib.hid (lt32 (fnN_lt Y.pn k) (by omega)); have HL2 := Lib.hid (lt32 (frN_lt Y.pn k) (by omega))
      generalize Y.pn k = p at *
      obtain ⟨sd, lf, br⟩ := p
      unfold stillB at HN1 HN2
      dsimp only at p0 p1 p2 hpk HN1 HN2
      obtain ⟨w4, hw4⟩ : ∃ w4, w4 = w3.alloc (.cells #[.int .u8 (sd : Int), .int .i64 (lf : Int), .bool br] 78) := ⟨_, rfl⟩
      have HW4 := Lib.hid hw4
      have B34 : Hid (Below w3.heap.size w3 w4) := by rw [hw4]; exact tb_alloc_below _ _
      have P4 : Hid (w4.heap[w3.heap.size]? = some (.cells #[.int .u8 (sd : Int), .int .i64 (lf : Int), .bool br] 78 (0, 0))) := by rw [hw4]; exact heap_alloc_new _ _
      have K4 := Lib.hid (tb_kept K3.out B34.out); have R4 := Lib.hid (tb_kept R3.out B34.out)
      have B4 : Hid (Below w.heap.size w w4) := B3.out.trans (B34.out.mono B3.out.size)
      have gB := cell_row (j := 11) H3.out.obj rfl
      have lg := heap_lt H3.out.obj
      clear hw4
      go_upto_region 11 with fail
      rw [← HW4.out]
      obtain ⟨xb, hxb⟩ : ∃ b, b = w3.heap.size := ⟨_, rfl⟩
      rw [← hxb] at P4 ⊢
      clear hxb HW4 p0 p1 p2 lp gB lg H3 K3 R3 B3 B34
      have x0 := cell_row (j := 0) P4.out rfl; have x1 := cell_row (j := 1) P4.out rfl; have x2 := cell_row (j := 2) P4.out rfl
      have lx := heap_lt P4.out
      cases br
      case true =>
        have hn1 : Hid (fnN Y.pn (k + 1) = fnN Y.pn k) := HN1.out
        have hn2 : Hid (frN Y.pn (k + 1) = frN Y.pn k) := HN2.out
        go_wp2_with fail
        go_roundw
        case rel => exact ⟨k + 1, by omega, by go_num, by rw [hn1.out, hn2.out]; exact K4.out, R4.out, B4.out⟩
        case measure => simp [intOf]; omega
      case false =>
      by_cases hl : lf = 0
      case neg =>
        have dl : decide ((0 : Int) < (lf : Int)) = true := decide_eq_true (by omega)
        have hl0 : (lf == 0) = false := by simpa using hl
        have hn1 : Hid (fnN Y.pn (k + 1) = fnN Y.pn k) := by show _ = _; rw [HN1.out, hl0]; rfl
        have hn2 : Hid (frN Y.pn (k + 1) = frN Y.pn k) := by show _ = _; rw [HN2.out, hl0]; rfl
        clear hl0
        go_wp2_with fail
        go_roundw
        case rel => exact ⟨k + 1, by omega, by go_num, by rw [hn1.out, hn2.out]; exact K4.out, R4.out, B4.out⟩
        case measure => simp [intOf]; omega
      case pos =>
      subst hl
      have hl0 : Hid (((0 : Nat) == 0) = true) := rfl
      by_cases hs : sd = 1
      case pos =>
        subst hs
        have hn1 : Hid (fnN Y.pn (k + 1) = fnN Y.pn k ||| 2 ^ k) := by show _ = _; rw [HN1.out, hl0.out]; rfl
        have hn2 : Hid (frN Y.pn (k + 1) = frN Y.pn k) := by show _ = _; rw [HN2.out, hl0.out]; rfl
        go_upto_region 13 with fail
        clear x0 x1 x2 lx
        have y0 := cell_row (j := 1) K4.out rfl
        have y0f : w4.frozen? ⟨fb, 1, none⟩ = false := frozen_of_row _ _ _ _ _ K4.out
        have lf := heap_lt K4.out
        go_region
        rw [or_bit _ k HL1.out (by omega)]
        have K5 : Hid ((w4.setCell ⟨fb, 1, none⟩ (.int .u32 ((fnN Y.pn k ||| 2 ^ k : Nat) : Int))).drew.heap[fb]? = _) := heap_setCell_same w4 fb 1 _ _ (.int .u32 ((fnN Y.pn k ||| 2 ^ k : Nat) : Int)) K4.out
        have R5 : Hid ((w4.setCell ⟨fb, 1, none⟩ (.int .u32 ((fnN Y.pn k ||| 2 ^ k : Nat) : Int))).drew.heap[rb]? = _) := (heap_setCell_other _ _ _ _ (by have := HRB.out; show ¬ _ = _; dsimp only; omega)).trans R4.out
        have B5 : Hid (Below w.heap.size w (w4.setCell ⟨fb, 1, none⟩ (.int .u32 ((fnN Y.pn k ||| 2 ^ k : Nat) : Int))).drew) := (B4.out.setCell (p := ⟨fb, 1, none⟩) (Nat.le_of_eq HFB.out.symm) _).drew
        generalize (w4.setCell ⟨fb, 1, none⟩ (.int .u32 ((fnN Y.pn k ||| 2 ^ k : Nat) : Int))).drew = w5 at *
        clear y0 y0f lf K4 R4 B4
        go_wp2_with fail
        go_roundw
        case rel => exact ⟨k + 1, by omega, by go_num, by rw [hn1.out, hn2.out]; exact K5.out, R5.out, B5.out⟩
        case measure => simp [intOf]; omega
      case neg =>
        have s1 : ((sd : Int) == 1) = false := by simpa using (show ¬ (sd : Int) = 1 by omega)
        have s2 : (sd == 1) = false := by simpa using hs
        have s3 : (sd != 1) = true := by simpa using hs
        have hn1 : Hid (fnN Y.pn (k + 1) = fnN Y.pn k) := by show _ = _; rw [HN1.out, hl0.out, s2]; rfl
        have hn2 : Hid (frN Y.pn (k + 1) = frN Y.pn k ||| 2 ^ k) := by show _ = _; rw [HN2.out, hl0.out, s3]; rfl
        clear s2 s3 hs
        go_upto_region 10 with fail
        clear x0 x1 x2 lx
        have y0 := cell_row (j := 2) K4.out rfl
        have y0f : w4.frozen? ⟨fb, 2, none⟩ = false := frozen_of_row _ _ _ _ _ K4.out
        have lf := heap_lt K4.out
        go_region
        rw [or_bit _ k HL2.out (by omega)]
        have K5 : Hid ((w4.setCell ⟨fb, 2, none⟩ (.int .u32 ((frN Y.pn k ||| 2 ^ k : Nat) : Int))).drew.heap[fb]? = _) := heap_setCell_same w4 fb 2 _ _ (.int .u32 ((frN Y.pn k ||| 2 ^ k : Nat) : Int)) K4.out
        have R5 : Hid ((w4.setCell ⟨fb, 2, none⟩ (.int .u32 ((frN Y.pn k ||| 2 ^ k : Nat) : Int))).drew.heap[rb]? = _) := (heap_setCell_other _ _ _ _ (by have := HRB.out; show ¬ _ = _; dsimp only; omega)).trans R4.out
        have B5 : Hid (Below w.heap.size w (w4.setCell ⟨fb, 2, none⟩ (.int .u32 ((frN Y.pn k ||| 2 ^ k : Nat) : Int))).drew) := (B4.out.setCell (p := ⟨fb, 2, none⟩) (Nat.le_of_eq HFB.out.symm) _).drew
        generalize (w4.setCell ⟨fb, 2, none⟩ (.int .u32 ((frN Y.pn k ||| 2 ^ k : Nat) : Int))).drew = w5 at *
        clear y0 y0f lf K4 R4 B4
        go_wp2_with fail
        go_roundw
        case rel => exact ⟨k + 1, by omega, by go_num, by rw [hn1.out, hn2.out]; exact K5.out, R5.out, B5.out⟩
        case measure => simp [intOf]; omega
end Go.Proofs.Ytnjeiigdfdjccaa
/- A frame of a yard, in plain words: its parts one by one. -/
namespace Go.Proofs.Ytnjeiigdfdjccaa
open Go.RowKit
set_option linter.unusedVariables false
set_option linter.unusedSimpArgs false
theorem movesY_snoc (T : Tab) (m : MV) : ∀ (l : List MV) (Y : YS), movesY T Y (l ++ [m]) = moveY T (movesY T Y l) m
  | [], _ => rfl
  | x :: l, Y => movesY_snoc T m l (moveY T Y x)
theorem movesF_snoc (T : Tab) (m : MV) : ∀ (l : List MV) (Y : YS) (f : FD), movesF T Y f (l ++ [m]) = moveF T (movesY T Y l) (movesF T Y f l) m
  | [], _, _ => rfl
  | x :: l, Y, f => movesF_snoc T m l (moveY T Y x) (moveF T Y f x)
theorem movesE_snoc (T : Tab) (m : MV) : ∀ (l : List MV) (Y : YS), movesE T Y (l ++ [m]) = movesE T Y l ++ [ansN T (movesY T Y l) m]
  | [], _ => rfl
  | x :: l, Y => congrArg (ansN T Y x :: ·) (movesE_snoc T m l (moveY T Y x))
theorem movesE_len (T : Tab) : ∀ (l : List MV) (Y : YS), (movesE T Y l).length = l.length
  | [], _ => rfl
  | _ :: l, Y => by show (movesE T _ l).length + 1 = l.length + 1; rw [movesE_len T l]
theorem take_snoc {α : Type} {l : List α} {k : Nat} (d : α) (h : k < l.length) : l.take (k + 1) = l.take k ++ [l.getD k d] := by
  rw [List.take_succ_eq_append_getElem h, List.getD_eq_getElem?_getD, List.getElem?_eq_getElem h]; rfl
theorem ansN_range {T : Tab} (hT : TOk T) {Y : YS} {m : MV} (h : ansN T Y m = 0) : 0 ≤ m.n ∧ m.n.toNat < 16 := by
  unfold ansN at h
  split at h
  · omega
  split at h
  · omega
  rename_i h1 h2
  have := hT.n; have := hT.p
  have hm : manyN T m.kd ≤ 16 := by unfold manyN; split <;> omega
  omega
/-- What a feed of moves keeps. -/
structure FdOk (f : FD) : Prop where
  ok : f.Ok
  cl : f.cl = 0
  no : f.no = 0
  re : f.re = 0
  rq : f.rq = 0
theorem moveF_ok {T : Tab} (hT : TOk T) {Y : YS} {m : MV} {f : FD} (h : FdOk f) : FdOk (moveF T Y f m) := by
  unfold moveF
  split
  · rename_i ha
    obtain ⟨h0, h1⟩ := ansN_range hT ha
    have hb : 2 ^ m.n.toNat < 2 ^ 32 := Nat.pow_lt_pow_right (by omega) (by omega)
    have ho : ∀ x, x < 4294967296 → x ||| 2 ^ m.n.toNat < 4294967296 := fun x hx => Nat.or_lt_two_pow (n := 32) hx hb
    unfold doF
    split
    · exact ⟨⟨h.ok.cl, h.ok.no, h.ok.re, ho _ h.ok.ak, h.ok.ca, h.ok.rq⟩, h.cl, h.no, h.re, h.rq⟩
    split
    · exact ⟨⟨h.ok.cl, h.ok.no, h.ok.re, h.ok.ak, ho _ h.ok.ca, h.ok.rq⟩, h.cl, h.no, h.re, h.rq⟩
    · exact h
  · exact h
theorem movesF_ok {T : Tab} (hT : TOk T) : ∀ (l : List MV) (Y : YS) (f : FD), FdOk f → FdOk (movesF T Y f l)
  | [], _, _, h => h
  | m :: l, Y, f, h => movesF_ok hT l _ _ (moveF_ok hT h)
theorem fd00_ok : FdOk fd00 := ⟨⟨by decide, by decide, by decide, by decide, by decide, by decide⟩, rfl, rfl, rfl, rfl⟩
theorem feedY_ok {T : Tab} (hT : TOk T) (htk : T.tracks ≤ 24) (Y : YS) (l : List MV) : (feedY T Y l).Ok := by
  have h := movesF_ok hT l (freshY Y) fd00 fd00_ok
  have hp := hT.p
  exact ⟨lt32 (clN_lt _ _ _) (by omega), lt32 (fnN_lt _ _) (by omega), lt32 (frN_lt _ _) (by omega), h.ok.ak, h.ok.ca, h.ok.rq⟩
/-- Its points move for some time only. -/
def Lf (Y : YS) : Prop := ∀ p, (Y.pn p).lf ≤ 101
theorem lf_mid {T : Tab} {Y0 Y : YS} (h : MidY T Y0 Y) (hl : Lf Y0) : Lf Y := fun p => by rw [(h.pn p).2]; exact hl p
theorem lf_turn {o : OD} {d n : Nat} {p : PN} (hd : d ≤ 100) (h : p.lf ≤ 101) : (turnP o d n p).lf ≤ 101 := by
  unfold turnP
  split
  · exact h
  · show d + 1 ≤ 101; omega
theorem lf_frame {T : Tab} {Y : YS} {d : Nat} (hT : TOk T) (hd : d ≤ 100) (h : YInv T Y) (hl : Lf Y) (l : List MV) : Lf (frameY T d Y l) := fun p => by
  have h1 := lf_mid (mid_lift hT h l) hl p
  refine lf_turn hd ?_
  show ((movesY T (freshY Y) l).pn p).lf - 1 ≤ 101
  omega
theorem lf_frames {T : Tab} {d : Nat} (hc : checkE T = 0) (hT : TOk T) (hd : d ≤ 100) : ∀ (l : List (List MV)) (Y : YS), YInv T Y → Lf Y → Lf (framesY T d Y l)
  | [], _, _, h => h
  | _ :: l, _, hi, h => lf_frames hc hT hd l _ (frame_inv hc hT hi _) (lf_frame hT hd hi h _)
structure OD.Ok (o : OD) : Prop where
  pr : o.pr < 4294967296
  no : o.no < 4294967296
  re : o.re < 4294967296
  lo : o.lo < 4294967296
theorem order_ok {T : Tab} (hT : TOk T) (f : FD) {S : AS} (hS : S.Ok) : (orderS T f S).Ok :=
  ⟨prN_lt T f S.R (fun n hn => by have := hT.sig n hn; omega) _ (Nat.le_refl _), noN_lt S.C hS.C _ hT.p, reN_lt S.C hS.C _ hT.p, loN_lt S.R _ hT.n⟩
theorem YInv.lok {T : Tab} {Y : YS} (hT : TOk T) (h : YInv T Y) : Y.L.Ok := by
  obtain ⟨f, e⟩ := h.ord
  rw [e]
  exact order_ok hT f h.ok
theorem mid_onOk {T : Tab} {Y0 Y : YS} (h : MidY T Y0 Y) : OnOk T Y.tn := fun n hn hi => ⟨((h.tn n hn).ord hi).1, ((h.tn n hn).ord hi).2.2⟩
/-- Trains that are none are nowhere. -/
def Nw (Y : YS) : Prop := ∀ n, (Y.tn n).is = false → (Y.tn n).tl = 0 ∧ (Y.tn n).hd = 0
theorem goneOn_is {L : Nat} {x : TN} {h t : Bool} (hi : x.is = true) : (goneOn L x h t).is = false → (goneOn L x h t).tl = 0 ∧ (goneOn L x h t).hd = 0 := by
  unfold goneOn
  split
  · intro _; exact ⟨rfl, rfl⟩
  · intro e; exact absurd (hi.symm.trans e) (by decide)
theorem nw_move {T : Tab} {Y : YS} (h : Nw Y) (m : MV) : Nw (moveY T Y m) := by
  unfold moveY
  split
  · rename_i ha
    unfold doY
    split
    · intro n hn
      by_cases e : n = m.n.toNat
      · subst e
        rw [setT_at] at hn
        cases hn
      · rw [setT_ne e] at hn ⊢
        exact h n hn
    split
    · rename_i hk
      have hi : (Y.tn m.n.toNat).is = true := by
        unfold ansN at ha
        split at ha
        · omega
        split at ha
        · omega
        split at ha
        · omega
        rename_i hk3
        cases hx : (Y.tn m.n.toNat).is with
        | true => rfl
        | false => exact absurd ⟨by omega, by omega, hx⟩ hk3
      intro n hn
      by_cases e : n = m.n.toNat
      · subst e
        rw [setT_at] at hn ⊢
        exact goneOn_is hi hn
      · rw [setT_ne e] at hn ⊢
        exact h n hn
    split
    · exact h
    · exact h
  · exact h
theorem nw_moves {T : Tab} : ∀ (l : List MV) (Y : YS), Nw Y → Nw (movesY T Y l)
  | [], _, h => h
  | m :: l, _, h => nw_moves l _ (nw_move h m)
theorem nw_frame {T : Tab} {Y : YS} {d : Nat} (h : Nw Y) (l : List MV) : Nw (frameY T d Y l) := fun n hn => nw_moves (T := T) l (freshY Y) (fun n hn => h n hn) n hn
theorem mid_small {T : Tab} {Y0 Y : YS} (hT : TOk T) (h : MidY T Y0 Y) (hw : Nw Y) : ∀ n, n < T.rts.length → (Y.tn n).tl ≤ 1000 ∧ (Y.tn n).hd ≤ 1000 := fun n hn => by
  cases hi : (Y.tn n).is with
  | true =>
    have := (h.tn n hn).ord hi
    have := (hT.tl n hn).2
    omega
  | false =>
    have := hw n hi
    omega
/-- All that a frame wants of a yard. -/
structure YFine (T : Tab) (Y : YS) : Prop where
  inv : YInv T Y
  lf : Lf Y
  nw : Nw Y
theorem YFine.frame {T : Tab} {Y : YS} {d : Nat} (hc : checkE T = 0) (hT : TOk T) (hd : d ≤ 100) (h : YFine T Y) (l : List MV) : YFine T (frameY T d Y l) :=
  ⟨frame_inv hc hT h.inv l, lf_frame hT hd h.inv h.lf l, nw_frame h.nw l⟩
theorem yfine0 (T : Tab) : YFine T ys0 := ⟨yinv0 T, fun _ => Nat.zero_le _, fun _ _ => ⟨rfl, rfl⟩⟩
/-- Rows are by what is there. -/
theorem tnV_congr {tn tn' : Nat → TN} {n : Nat} (h : ∀ j, j < n → tn j = tn' j) {q : Nat} (hq : q < n * 4) : tnV tn q = tnV tn' q := by
  unfold tnV; rw [h (q / 4) (by omega)]
theorem pnV_congr {pn pn' : Nat → PN} {n : Nat} (h : ∀ j, j < n → pn j = pn' j) {q : Nat} (hq : q < n * 3) : pnV pn q = pnV pn' q := by
  unfold pnV; rw [h (q / 3) (by omega)]
theorem YdAt.tn_congr {w : World} {y : Yd} {Y : YS} {tn : Nat → TN} (h : YdAt w y Y) (e : ∀ j, j < y.u.T.rts.length → Y.tn j = tn j) : YdAt w y { Y with tn := tn } :=
  ⟨h.obj, h.tp, h.tr, h.bel, h.ts.congr (fun q hq => tnV_congr e hq), h.ps, h.au, h.ap⟩
theorem YdAt.pn_congr {w : World} {y : Yd} {Y : YS} {pn : Nat → PN} (h : YdAt w y Y) (e : ∀ j, j < y.u.T.pts.length → Y.pn j = pn j) : YdAt w y { Y with pn := pn } :=
  ⟨h.obj, h.tp, h.tr, h.bel, h.ts, h.ps.congr (fun q hq => pnV_congr e hq), h.au, h.ap⟩
/-- Moves in a row. -/
def mv0 : MV := ⟨0, 0⟩
def mvV (l : List MV) (i j : Nat) : Value := if j = 0 then .int .u8 ((l.getD i mv0).kd : Int) else .int .i64 (l.getD i mv0).n
structure MvsAt (w : World) (v : Value) (l : List MV) : Prop where
  at_ : ∃ a c, v = .slice a l.length c ∧ l.length ≤ c ∧ c ≤ maxLen ∧ SliceN w a l.length 2 (mvV l)
  ok : ∀ i, i < l.length → (l.getD i mv0).kd < 256 ∧ i64ok (l.getD i mv0).n
theorem MvsAt.below {w w' : World} {v : Value} {l : List MV} (h : MvsAt w v l) (hb : Below w.heap.size w w') : MvsAt w' v l := by
  obtain ⟨⟨a, c, h1, h2, h3, h4⟩, h5⟩ := h
  exact ⟨⟨a, c, h1, h2, h3, h4.below hb⟩, h5⟩
/-- Some trains are made ready for a frame; some points' time is gone on; some points are turned. -/
def freshT (tn : Nat → TN) (k : Nat) : Nat → TN := fun n => if n < k then { tn n with mv := false } else tn n
def tickP (pn : Nat → PN) (k : Nat) : Nat → PN := fun n => if n < k then { pn n with lf := (pn n).lf - 1 } else pn n
def turnK (o : OD) (d : Nat) (pn : Nat → PN) (k : Nat) : Nat → PN := fun n => if n < k then turnP o d n (pn n) else pn n
theorem freshT_succ (tn : Nat → TN) (k : Nat) : freshT tn (k + 1) = fun j => if j = k then { freshT tn k k with mv := false } else freshT tn k j := by
  funext j
  unfold freshT
  by_cases e : j = k
  · subst e; rw [if_pos (by omega), if_pos rfl, if_neg (by omega)]
  · rw [if_neg e]
    by_cases h : j < k
    · rw [if_pos (by omega), if_pos h]
    · rw [if_neg (by omega), if_neg h]
theorem tickP_succ (pn : Nat → PN) (k : Nat) : tickP pn (k + 1) = fun j => if j = k then { pn k with lf := (pn k).lf - 1 } else tickP pn k j := by
  funext j
  unfold tickP
  by_cases e : j = k
  · subst e; rw [if_pos (by omega), if_pos rfl]
  · rw [if_neg e]
    by_cases h : j < k
    · rw [if_pos (by omega), if_pos h]
    · rw [if_neg (by omega), if_neg h]
theorem turnK_succ (o : OD) (d : Nat) (pn : Nat → PN) (k : Nat) : turnK o d pn (k + 1) = fun j => if j = k then turnP o d k (pn k) else turnK o d pn k j := by
  funext j
  unfold turnK
  by_cases e : j = k
  · subst e; rw [if_pos (by omega), if_pos rfl]
  · rw [if_neg e]
    by_cases h : j < k
    · rw [if_pos (by omega), if_pos h]
    · rw [if_neg (by omega), if_neg h]
theorem tickP_at (pn : Nat → PN) (k : Nat) : tickP pn k k = pn k := if_neg (by omega)
theorem turnK_at (o : OD) (d : Nat) (pn : Nat → PN) (k : Nat) : turnK o d pn k k = pn k := if_neg (by omega)
theorem freshT_at (tn : Nat → TN) (k : Nat) : freshT tn k k = tn k := if_neg (by omega)
end Go.Proofs.Ytnjeiigdfdjccaa
