/- TableLines. -/
import Derived.Test.YtpodedhnlicckaaGreatDoorTbLd
import Derived.Test.YtpodedhnlicckaaGreatDoorTbLy
namespace Go.Proofs.YtpodedhnlicckaaGreatDoor
open Go.RowKit
set_option linter.unusedVariables false
set_option linter.unusedSimpArgs false
theorem parT_k : ∀ (ls : List (List UInt8)) (n : Nat) (T : Tab), (parT n T ls).2.2 ≠ 0 → 1 ≤ (parT n T ls).2.1
  | [], n, T, _ => Nat.le_add_left 1 n
  | [l], n, T, h => by
    rw [parT_one] at h ⊢
    by_cases e : 2 ≤ n ∧ l = []
    · rw [if_pos e] at h; exact absurd rfl h
    · rw [if_neg e]; exact Nat.le_add_left 1 n
  | l :: m :: r, n, T, h => by
    rw [parT_cons] at h ⊢
    cases hs : stepT T n l with
    | none => exact Nat.le_add_left 1 n
    | some T' => rw [hs] at h; exact parT_k (m :: r) (n + 1) T' h
theorem parseT_k {s : List UInt8} {T : Tab} {k : Nat} (h : parseT s = (T, k, 262)) : 1 ≤ k := by
  unfold parseT at h
  by_cases e : 8000 < s.length
  · rw [if_pos e] at h; exact absurd (Prod.mk.inj (Prod.mk.inj h).2).2 (by decide)
  · rw [if_neg e] at h
    have := parT_k (partL 10 s) 0 tab0 (by rw [h]; show (262 : Nat) ≠ 0; omega)
    rw [h] at this; exact this
theorem tab0_shape {w : World} {v : Value} (h : TabAt w v tab0) : ∃ pa pc ra rc, v = .agg #[.int .i64 0, .slice pa 0 pc, .int .i64 0, .slice ra 0 rc] := by
  obtain ⟨⟨up, ur, rfl, hup, hur⟩, _, _⟩ := h
  obtain ⟨pa, pc, rfl, _, _, _⟩ := hup.at_
  obtain ⟨ra, rc, _, rfl, _, _, _⟩ := hur.at_
  exact ⟨pa, pc, ra, rc, rfl⟩
theorem tab_shape {w : World} {v : Value} {T : Tab} (h : TabAt w v T) : ∃ t pa pl pc s ra rl rc, v = .agg #[.int .i64 t, .slice pa pl pc, .int .i64 s, .slice ra rl rc] := by
  obtain ⟨⟨up, ur, rfl, hup, hur⟩, _, _⟩ := h
  obtain ⟨pa, pc, rfl, _, _, _⟩ := hup.at_
  obtain ⟨ra, rc, _, rfl, _, _, _⟩ := hur.at_
  exact ⟨_, pa, _, pc, _, ra, _, rc, rfl⟩
theorem cat_data (s b : ByteArray) : (s ++ b).data.toList = s.data.toList ++ b.data.toList := by
  rw [ByteArray.data_append, Array.toList_append]
theorem cat_size (s b : ByteArray) : (s ++ b).size = s.size + b.size := ByteArray.size_append
theorem parse_err (s : ByteArray) (k : Nat) (w : World) (h : parseT s.data.toList = (tab0, k, 262)) (hs : s.size ≤ 9223372036854775807) (hM : MaxW w) :
    Calls Tryz.prog 10 #[.string s] w fun e w' => (∃ v, e = .returned (.tuple #[v, .int .i64 (k : Int), .int .i64 262]) ∧ TabAt w' v tab0) ∧ Below w.heap.size w w' := by
  have c := parse_any s w hs hM
  rw [h] at c
  exact c
theorem ends_len {s : ByteArray} {Q : List (List UInt8)} {last : List UInt8} (k : Nat) (h1 : s.data.toList = endsD Q ++ last) : (endsD (Q.take k)).length ≤ s.size := by
  have hsl := size_list s
  have hle : (endsD (Q.take k)).length ≤ (endsD Q).length := by
    conv => rhs; rw [← List.take_append_drop k Q, endsD_app, List.length_append]
    omega
  rw [h1, List.length_append] at hsl
  omega
theorem join_lines (s : ByteArray) (Q : List (List UInt8)) (last : List UInt8) (k bk : Nat) (W : World) (h1 : s.data.toList = endsD Q ++ last) (h4 : (afterB s).map (·.data.toList) = Q.map (fun q => q ++ [10]) ++ [last]) (hk : k ≤ Q.length) (hs : s.size ≤ 8000)
    (hrow : W.heap[bk]? = some (.cells ((afterB s).map Value.string).toArray 9 (0, 0))) :
    Calls Tryz.prog 30 #[.slice (some ⟨bk, 0, none⟩) k (afterB s).length, .string ⟨#[]⟩] W fun e w' => e = .returned (.string ⟨(endsD (Q.take k)).toArray⟩) ∧ Below W.heap.size W w' := by
  have hl : (afterB s).length = Q.length + 1 := by
    have := congrArg List.length h4
    simpa using this
  have hx : ((afterB s).take k).length = k := by rw [List.length_take]; omega
  have hq : Q.length ≤ (endsD Q).length := by
    clear h1 h4 hk hl hx
    induction Q with
    | nil => simp
    | cons q Q ih => rw [endsD_cons]; simp only [List.length_append, List.length_cons]; omega
  have hsl := size_list s
  have hsum : (endsD Q).length ≤ 8000 := by rw [h1, List.length_append] at hsl; omega
  have hf : (((afterB s).take k).map (·.data.toList)).flatten = endsD (Q.take k) := by
    rw [List.map_take, h4, take_lines Q last hk]
    unfold endsD
    rw [List.flatMap_def]
  have hle : (endsD (Q.take k)).length ≤ (endsD Q).length := by
    conv => rhs; rw [← List.take_append_drop k Q, endsD_app, List.length_append]
    omega
  have c := joinb_any bk (afterB s).length ((afterB s).take k) W (fun j x hj => ?_) (heap_lt hrow) (by omega) (by omega) (by rw [hf]; omega)
  · rw [hf, hx] at c
    exact c
  · have hjk : j < k := by
      have := (List.getElem?_eq_some_iff.1 hj).1
      omega
    rw [List.getElem?_take_of_lt hjk] at hj
    exact cell_row (j := j) hrow (by rw [List.getElem?_toArray, List.getElem?_map, hj]; rfl)
set_option maxRecDepth 100000 in
set_option maxHeartbeats 8000000 in
theorem lines_any (s b : ByteArray) (w : World) (hs : s.size < 140737488355328) (hb : b.size < 140737488355328) (hL : LibW w) :
    Calls Tryz.prog 8 #[.string s, .string b] w fun e w' => e = .returned (.bool true) ∧ Below w.heap.size w w' := by
  have HL := Lib.hid hL
  have HWK := Lib.hid (fun (W : World) (hW : Below w.heap.size w W) => works_any W (HL.out.below hW).tab (HL.out.below hW).max)
  have hsu : ((s.size : Int) + (b.size : Int) + 9223372036854775808) % 18446744073709551616 - 9223372036854775808 = (s.size : Int) + (b.size : Int) := by omega
  clear hL
  by_cases hbig : 8000 < s.size + b.size
  · have t1 : decide ((8000 : Int) < (s.size : Int) + (b.size : Int)) = true := decide_eq_true (by omega)
    have B0 := Lib.hid (Below.refl w.heap.size w)
    go_enter Tryz.func8, Tryz.ntmps8
    have H := Lib.hid (HWK.out w B0.out)
    go_wp2_with fail
    (with_reducible refine H.out.mono ?_)
    rintro e w9 ⟨rfl, hb9⟩
    have B9 := Lib.hid (B0.out.trans (hb9.mono B0.out.size))
    go_wp2_with fail
    go_ret
    exact ⟨rfl, B9.out⟩
  have t1 : decide ((8000 : Int) < (s.size : Int) + (b.size : Int)) = false := decide_eq_false (by omega)
  have HSB : Hid (s.size + b.size ≤ 8000) := by show _ ≤ _; omega
  have HQ := Lib.hid (parse_any s w (by omega) HL.out.max)
  clear hbig
  go_enter Tryz.func8, Tryz.ntmps8
  go_wp2_with fail
  refine HQ.out.mono ?_
  rintro e w2 ⟨⟨u, rfl, hu⟩, hb2⟩
  have B2 := Lib.hid hb2
  clear hb2 HQ
  generalize hR : parseT s.data.toList = R at *
  obtain ⟨U, k, cc⟩ := R
  have HR := Lib.hid hR
  clear hR
  simp only at hu ⊢
  obtain ⟨t_, pa_, pl_, pc_, s_, ra_, rl_, rc_, rfl⟩ := tab_shape hu
  clear hu
  obtain ⟨w3, hx_⟩ : ∃ x, x = (w2).alloc (.cells #[.int .i64 t_, .slice pa_ pl_ pc_, .int .i64 s_, .slice ra_ rl_ rc_] 25) := ⟨_, rfl⟩
  have B3 : Hid (Below w.heap.size w w3) := by rw [hx_]; exact B2.out.trans ((tb_alloc_below _ _).mono B2.out.size)
  have HX_ := Lib.hid hx_
  clear hx_
  go_upto_region 4 with fail
  rw [← HX_.out]
  clear HX_
  by_cases hc : cc = 262
  · have HR2 : parseT s.data.toList = (U, k, 262) := by rw [HR.out, hc]
    have hci : (cc : Int) = 262 := by omega
    rw [hci]
    clear hci hc HR
    have HR := Lib.hid HR2
    clear HR2
    have hk1 := parseT_k HR.out
    have hsz := HSB.out
    have HCN := Lib.hid (count_any s w3 (by omega) (HL.out.below B3.out).max)
    obtain ⟨Q, last, q1, q2, q3, q4⟩ := lines_of _ s.data.toList (Nat.le_refl _)
    have q3' : Lib.countB s ⟨#[10]⟩ = Q.length := q3
    have q4' : (afterB s).map (·.data.toList) = Q.map (fun q => q ++ [10]) ++ [last] := by
      unfold afterB
      rw [Lib.splitB_data]; exact q4
    rw [q3'] at HCN
    have t2 : decide ((k : Int) < 1) = false := decide_eq_false (by omega)
    have t3 : decide ((1 : Int) ≤ (k : Int)) = true := decide_eq_true (by omega)
    by_cases hk : Q.length < k
    · have t4 : decide (Q.length < k) = true := decide_eq_true (by omega)
      clear q1 q2 q3 q4 q3' q4' HR hk hk1
      clear hsz
      generalize Q.length = ql at *
      go_wp2_with fail
      (with_reducible refine HCN.out.mono ?_)
      rintro e w4 ⟨rfl, rfl⟩
      have H := Lib.hid (HWK.out w4 B3.out)
      go_wp2_with fail
      (with_reducible refine H.out.mono ?_)
      rintro e w9 ⟨rfl, hb9⟩
      have B9 := Lib.hid (B3.out.trans (hb9.mono B3.out.size))
      go_wp2_with fail
      go_ret
      exact ⟨rfl, B9.out⟩
    · have t4 : decide (Q.length < k) = false := decide_eq_false (by omega)
      have HK : Hid (k ≤ Q.length) := by show _ ≤ _; omega
      have HK1 := Lib.hid hk1
      have HLL := Lib.hid (lines_law (b := b.data.toList) q1 q2 HR.out hk1 HK.out (by rw [size_list, size_list]; exact hsz))
      have hql : (Q.length : Int) ≤ 9223372036854775807 := by
        have : Q.length ≤ s.size := by rw [← q3']; exact Lib.countB_le ⟨#[10]⟩ (Nat.le_refl 1) s.size s (Nat.le_refl _)
        omega
      have HQ4 := Lib.hid q4'
      have HQ1 := Lib.hid q1
      have hal : (afterB s).length = Q.length + 1 := by have := congrArg List.length q4'; simpa using this
      have HAL := Lib.hid hal
      clear hal
      have hpz : (⟨(endsD (Q.take k)).toArray⟩ : ByteArray).size ≤ 8000 := by have h1 := ends_len k HQ1.out; have h2 : (⟨(endsD (Q.take k)).toArray⟩ : ByteArray).size = (endsD (Q.take k)).length := List.size_toArray; omega
      have HPZ := Lib.hid hpz
      clear hpz
      have HPF := Lib.hid (fun (W : World) (hW : Below w.heap.size w W) => parse_err ((⟨(endsD (Q.take k)).toArray⟩ : ByteArray) ++ b) k W (by rw [cat_data]; exact HLL.out.2) (by have h1 := ends_len k HQ1.out; have h2 : (⟨(endsD (Q.take k)).toArray⟩ : ByteArray).size = (endsD (Q.take k)).length := List.size_toArray; rw [cat_size, h2]; omega) (HL.out.below hW).max)
      have HPE := Lib.hid (parse_err (s ++ b) k w3 (by rw [cat_data]; exact HLL.out.1) (by rw [cat_size]; omega) (HL.out.below B3.out).max)
      clear q1 q2 q3 q4 q3' q4' HR hk hk1
      generalize hqn : Q.length = ql at *
      have HQN := Lib.hid hqn
      clear hqn
      clear hsz
      go_wp2_with fail
      (with_reducible refine HCN.out.mono ?_)
      rintro e w4 ⟨rfl, rfl⟩
      go_wp2_with fail
      refine HPE.out.mono ?_
      rintro e w5 ⟨⟨u, rfl, hu⟩, hb5⟩
      have B5 := Lib.hid (B3.out.trans (hb5.mono B3.out.size))
      clear hb5 HPE HCN t4 B3
      obtain ⟨t_, pa_, pl_, pc_, s_, ra_, rl_, rc_, rfl⟩ := tab_shape hu
      clear hu
      obtain ⟨w6, hx_⟩ : ∃ x, x = (w5).alloc (.cells #[.int .i64 t_, .slice pa_ pl_ pc_, .int .i64 s_, .slice ra_ rl_ rc_] 25) := ⟨_, rfl⟩
      have B6 : Hid (Below w.heap.size w w6) := by rw [hx_]; exact B5.out.trans ((tb_alloc_below _ _).mono B5.out.size)
      have HX_ := Lib.hid hx_
      clear hx_
      go_upto_region 7 with fail
      rw [← HX_.out]
      clear HX_
      have HAF := Lib.hid (after_any s w6 (by have := HSB.out; omega) (HL.out.below B6.out).max)
      go_wp2_with fail
      refine HAF.out.mono ?_
      rintro e w7 ⟨rfl, hw7⟩
      have B7 : Hid (Below w.heap.size w w7) := by rw [hw7]; exact B6.out.trans ((tb_alloc_below _ _).mono B6.out.size)
      have K7 : Hid (w7.heap[w6.heap.size]? = some (.cells ((afterB s).map Value.string).toArray 9 (0, 0))) := by rw [hw7]; exact heap_alloc_new _ _
      have HJ := Lib.hid (join_lines s Q last k w6.heap.size w7 HQ1.out HQ4.out (by rw [HQN.out]; exact HK.out) (by have := HSB.out; omega) K7.out)
      clear hw7 HAF t1 hsu hs hb t2 t3 hql
      have hkl : k ≤ (afterB s).length := by rw [HAL.out]; have := HK.out; omega
      have hlm : (afterB s).length ≤ 8001 := by
        have h1 := HAL.out
        have h2 := Lib.countB_le ⟨#[10]⟩ (Nat.le_refl 1) s.size s (Nat.le_refl _)
        rw [afterB_len] at *
        have := HSB.out; omega
      generalize (afterB s).length = L at *
      have i0 : (0 : Int) ≤ (k : Int) := by omega
      have i1 : (k : Int) ≤ (L : Int) := by omega
      have j1 : ¬ L < k := by omega
      go_wp2_with fail
      (with_reducible refine HJ.out.mono ?_)
      rintro e w8 ⟨rfl, hb8⟩
      have B8 := Lib.hid (B7.out.trans (hb8.mono B7.out.size))
      have HPG := Lib.hid (HPF.out w8 B8.out)
      clear hb8 HJ K7 HPF i0 i1 j1 hkl hlm HQ4 HQ1 HLL
      have hpz : (⟨(endsD (Q.take k)).toArray⟩ : ByteArray).size ≤ 8000 := HPZ.out
      have hbz : b.size ≤ 8000 := by have := HSB.out; omega
      generalize (⟨(endsD (Q.take k)).toArray⟩ : ByteArray) = pp at *
      go_wp2_with fail
      refine HPG.out.mono ?_
      rintro e w9 ⟨⟨u, rfl, hu⟩, hb9⟩
      have B9 := Lib.hid (B8.out.trans (hb9.mono B8.out.size))
      clear hb9 HPG
      obtain ⟨t_, pa_, pl_, pc_, s_, ra_, rl_, rc_, rfl⟩ := tab_shape hu
      clear hu
      obtain ⟨w10, hx_⟩ : ∃ x, x = (w9).alloc (.cells #[.int .i64 t_, .slice pa_ pl_ pc_, .int .i64 s_, .slice ra_ rl_ rc_] 25) := ⟨_, rfl⟩
      have B10 : Hid (Below w.heap.size w w10) := by rw [hx_]; exact B9.out.trans ((tb_alloc_below _ _).mono B9.out.size)
      have HX_ := Lib.hid hx_
      clear hx_
      go_upto_region 9 with fail
      rw [← HX_.out]
      clear HX_
      have H := Lib.hid (HWK.out w10 B10.out)
      go_wp2_with fail
      (with_reducible refine H.out.mono ?_)
      rintro e w9 ⟨rfl, hb9⟩
      have B9 := Lib.hid (B10.out.trans (hb9.mono B10.out.size))
      go_wp2_with fail
      go_ret
      exact ⟨rfl, B9.out⟩
  · have t2 : ((cc : Int) == 262) = false := beq_eq_false_iff_ne.2 (by omega)
    have t3 : ((cc : Int) != 262) = true := by rw [bne, t2]; rfl
    clear hc
    have H := Lib.hid (HWK.out w3 B3.out)
    go_wp2_with fail
    (with_reducible refine H.out.mono ?_)
    rintro e w9 ⟨rfl, hb9⟩
    have B9 := Lib.hid (B3.out.trans (hb9.mono B3.out.size))
    go_wp2_with fail
    go_ret
    exact ⟨rfl, B9.out⟩
theorem lines_walk (a0 a1 : ByteArray) (w : World) (w0 : a0.size ≤ maxLen) (z0 : a0.size < 140737488355328) (w1 : a1.size ≤ maxLen) (z1 : a1.size < 140737488355328) (hL : LibW w) :
    Calls Tryz.prog 8 #[.string a0, .string a1] w fun e w' => e = .returned (.bool true) ∧ Below w.heap.size w w' := lines_any a0 a1 w z0 z1 hL
end Go.Proofs.YtpodedhnlicckaaGreatDoor
