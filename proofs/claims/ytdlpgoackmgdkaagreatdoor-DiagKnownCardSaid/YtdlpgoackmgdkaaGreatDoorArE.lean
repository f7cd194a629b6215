/- Print: a plan's text. -/
import Derived.Test.YtdlpgoackmgdkaaGreatDoorArD
import Derived.Test.YtdlpgoackmgdkaaGreatDoorTake
namespace Go.Proofs.YtdlpgoackmgdkaaGreatDoor
open Go.RowKit Go.Shelf
set_option linter.unusedVariables false
set_option linter.unusedSimpArgs false
theorem wrap_u64n (n : Int) : IntKind.u64.wrap n = n % 18446744073709551616 := by simp [IntKind.wrap, IntKind.bits, IntKind.signed]
def itoaB (n : Int) : ByteArray := ⟨(Lib.itoa n).toArray⟩
theorem itoa_any (n : Int) (h0 : -9223372036854775808 ≤ n) (h1 : n ≤ 9223372036854775807) (w : World) (hT : TabW w) :
    Calls Tryz.prog 58 #[.int .i64 n] w fun e w' => e = .returned (.string (itoaB n)) ∧ Below w.heap.size w w' := by
  refine (Any.strconv_Itoa Tryz.laysItoa n h0 h1 w hT).mono ?_
  rintro e w' ⟨rfl, k, os, rfl⟩
  refine ⟨rfl, rfl, rfl, rfl, ?_, fun i hi => ?_⟩
  · show w.heap.size ≤ (w.heap ++ os).size
    simp
  · show (w.heap ++ os)[i]? = w.heap[i]?
    exact Array.getElem?_append_left hi
theorem itoa_len (n : Int) (h0 : -9223372036854775808 ≤ n) (h1 : n ≤ 9223372036854775807) : (Lib.itoa n).length ≤ 21 := by
  unfold Lib.itoa
  split
  · have := decS_size n.natAbs (by omega)
    have h2 : (Lib.decDigits n.natAbs).length ≤ 20 := this
    simp; omega
  · have := decS_size n.toNat (by omega)
    have h2 : (Lib.decDigits n.toNat).length ≤ 20 := this
    simp; omega
def lineT (x : PL) : List UInt8 := [97, 116, 32] ++ Lib.decDigits x.fr ++ [32, 114, 111, 117, 116, 101, 32] ++ Lib.itoa x.rt ++ [10]
def printT (ls : List PL) : List UInt8 := ls.flatMap lineT
theorem lineT_len {x : PL} (h : x.ok) : (lineT x).length ≤ 60 := by
  have h1 : (Lib.decDigits x.fr).length ≤ 20 := decS_size x.fr (by have := h.fr; omega)
  have h2 := itoa_len x.rt h.lo h.hi
  simp [lineT]; omega
theorem printT_len : ∀ (ls : List PL), (∀ x ∈ ls, x.ok) → (printT ls).length ≤ 60 * ls.length
  | [], _ => by simp [printT]
  | x :: r, h => by
    have h1 := printT_len r (fun y hy => h y (List.mem_cons_of_mem _ hy))
    have h2 := lineT_len (h x (by simp))
    unfold printT at *
    rw [List.flatMap_cons, List.length_append, List.length_cons]; omega
set_option maxRecDepth 100000 in
set_option maxHeartbeats 4000000 in
theorem print_any (ls : List PL) (a : Option Addr) (c base : Nat) (port : Int) (w : World) (hA : PlsAt w a ls) (hok : ∀ i, i < ls.length → (ls.getD i pl0).ok) (hm : ls.length ≤ 1000000) (hT : TabW w) :
    Calls Tryz.prog 35 #[.agg #[.int .u32 (base : Int), .int .i64 port, .slice a ls.length c]] w fun e w' => e = .returned (.string (bytesOf (printT ls))) ∧ Below w.heap.size w w' := by
  have HA := Lib.hid hA; have HOK := Lib.hid hok; have HT := Lib.hid hT
  obtain ⟨n, hn⟩ : ∃ n, n = ls.length := ⟨_, rfl⟩
  rw [← hn] at hm ⊢
  have HN := Lib.hid hn
  obtain ⟨w1, hw1⟩ : ∃ x, x = w.alloc (.cells #[.int .u32 (base : Int), .int .i64 port, .slice a n c] 25) := ⟨_, rfl⟩
  have B1 : Hid (Below w.heap.size w w1) := by rw [hw1]; exact alloc_below _ _
  have K1 : Hid (w1.heap[w.heap.size]? = some (.cells #[.int .u32 (base : Int), .int .i64 port, .slice a n c] 25 (0, 0))) := by rw [hw1]; exact heap_alloc_new _ _
  have HW1 := Lib.hid hw1
  obtain ⟨g, hg⟩ : ∃ g, g = w.heap.size := ⟨_, rfl⟩
  rw [← hg] at K1
  have HG := Lib.hid hg
  obtain ⟨B, hB⟩ : ∃ B, B = w1.heap.size := ⟨_, rfl⟩
  obtain ⟨w3, hw3⟩ : ∃ x, x = w1.alloc (.cells #[.pointer none, .slice none 0 0] 109) := ⟨_, rfl⟩
  have H3 : Hid (Bld B (printT (ls.take 0)) w3) := by rw [hB, hw3]; exact Bld.fresh w1
  have B3 : Hid (Below B w1 w3) := by rw [hB, hw3]; exact alloc_below _ _
  have HS3 : Hid (B + 1 ≤ w3.heap.size) := by rw [hB, hw3]; show _ ≤ _; simp
  have HGB : Hid (g < B) := by rw [hB]; exact heap_lt K1.out
  have HBW : Hid (w.heap.size ≤ B) := by rw [hB]; exact B1.out.size
  have HLX : Hid (∀ W, Below B w1 W → TabW W ∧ Below w.heap.size w W) := fun W hW => by
    have h2 := B1.out.trans (hW.mono HBW.out)
    exact ⟨HT.out.below h2, h2⟩
  have HB := Lib.hid hB; have HW3 := Lib.hid hw3
  clear hA hok hn hw1 hg hT hB hw3
  have q2 := (B3.out.cell (p := ⟨g, 2, none⟩) HGB.out).trans (cell_row (j := 2) K1.out rfl)
  go_enter Tryz.func35, Tryz.ntmps35
  go_upto_region 1 with fail
  rw [← HW1.out, ← HG.out]
  clear HW1
  go_upto_region 2 with fail
  rw [← HW3.out, ← HB.out]
  clear HW3
  go_wp2_with fail
  clear q2
  go_loopw [9] (fun i wr => ∃ k : Nat, k ≤ n ∧ i = .int .i64 (k : Int) ∧ Hid (Bld B (printT (ls.take k)) wr) ∧ Hid (Below B w1 wr) ∧ Hid (B + 1 ≤ wr.heap.size)) (fun i _ => n - (intOf i).toNat)
  case atStart => exact ⟨0, Nat.zero_le _, rfl, H3, B3, HS3⟩
  case round =>
    clear H3 B3 HS3
    obtain ⟨k, hk, rfl, HK, BB, HSK⟩ := hrel
    rcases Nat.lt_or_ge k n with hk2 | hk2
    case inr =>
      obtain rfl : k = n := by omega
      have t2 : decide ((k : Int) < (k : Int)) = false := by simp
      have HTE : Hid (ls.take k = ls) := by show _ = _; rw [HN.out, List.take_length]
      rw [HTE.out] at HK
      go_wp2_with fail
      refine (bs_any B (printT ls) wr HK.out (by have := HSK.out; omega)).mono ?_
      rintro e w12 ⟨rfl, hb12⟩
      have B12 : Hid (Below w.heap.size w w12) := (HLX.out _ (BB.out.trans hb12)).2
      clear hb12 BB HK
      go_wp2_with fail
      go_ret
      exact ⟨rfl, B12.out⟩
    have t2 : decide ((k : Int) < (n : Int)) = true := decide_eq_true (by omega)
    obtain ⟨b, off, rfl, hb, hc⟩ := HA.out.at (by rw [← HN.out]; omega)
    have hN := HN.out
    have BW := Lib.hid (HLX.out _ BB.out).2
    have a0 : wr.cell? ⟨b, off + k * 2, none⟩ = some (.int .u32 ((ls.getD k pl0).fr : Int)) := (BW.out.cell hb).trans (hc k (by omega) 0 (by omega))
    have a1 : wr.cell? ⟨b, off + k * 2 + 1, none⟩ = some (.int .i64 (ls.getD k pl0).rt) := (BW.out.cell hb).trans (hc k (by omega) 1 (by omega))
    have hkl : k < ls.length := by omega
    have hx := HOK.out k hkl
    have HTK : Hid (printT (ls.take (k + 1)) = printT (ls.take k) ++ lineT (ls.getD k pl0)) := by
      show _ = _
      rw [List.take_succ_eq_append_getElem hkl, show ls[k] = ls.getD k pl0 by rw [List.getD_eq_getElem?_getD, List.getElem?_eq_getElem hkl]; rfl]
      unfold printT
      rw [List.flatMap_append, List.flatMap_cons, List.flatMap_nil, List.append_nil]
    have hlenk : (printT (ls.take k)).length ≤ 60 * k := by
      have := printT_len (ls.take k) (fun x hx => by
        obtain ⟨i, hi, rfl⟩ := List.mem_iff_getElem.1 hx
        rw [List.length_take] at hi
        have := HOK.out i (by omega)
        rw [List.getD_eq_getElem?_getD, List.getElem?_eq_getElem (by omega)] at this
        rw [List.getElem_take]; exact this)
      rw [List.length_take, Nat.min_eq_left (by omega)] at this; exact this
    clear hc hN BW
    generalize ls.getD k pl0 = x at *
    have hlx := lineT_len hx
    obtain ⟨fr, rt⟩ := x
    simp only at a0 a1
    have hfr : fr < 4294967296 := hx.fr
    have hr0 : -9223372036854775808 ≤ rt := hx.lo
    have hr1 : rt ≤ 9223372036854775807 := hx.hi
    clear hx
    obtain ⟨w7, hw7⟩ : ∃ z, z = wr.alloc (.cells #[.int .u32 (fr : Int), .int .i64 rt] 71) := ⟨_, rfl⟩
    have K7 : Hid (w7.heap[wr.heap.size]? = some (.cells #[.int .u32 (fr : Int), .int .i64 rt] 71 (0, 0))) := by rw [hw7]; exact heap_alloc_new _ _
    have H7 : Hid (Bld B (printT (ls.take k)) w7) := HK.out.below (by rw [hw7]; exact alloc_below _ _)
    have B7 : Hid (Below B w1 w7) := by rw [hw7]; exact BB.out.alloc (by have := HSK.out; omega) _
    have HS7 : Hid (B + 1 ≤ w7.heap.size) := by rw [hw7]; show _ ≤ _; simp; have := HSK.out; omega
    have HW7 := Lib.hid hw7
    clear hw7 HK BB
    go_upto_region 5 with fail
    rw [← HW7.out]
    clear HW7 a0 a1
    obtain ⟨gl, hgl⟩ : ∃ x, x = wr.heap.size := ⟨_, rfl⟩
    rw [← hgl] at K7 HSK ⊢
    clear hgl
    have KS : Hid (∀ W : World, (W.heap[gl]? = some (.cells #[.int .u32 (fr : Int), .int .i64 rt] 71 (0, 0)) ∧ W.cell? ⟨gl, 0, none⟩ = some (.int .u32 (fr : Int)) ∧ W.cell? ⟨gl, 1, none⟩ = some (.int .i64 rt)) → (W.cell? ⟨gl, 0, none⟩ = some (.int .u32 (fr : Int)) ∧ W.cell? ⟨gl, 1, none⟩ = some (.int .i64 rt))) := fun W h => h.2
    have kb : Hid (∀ W : World, W.heap[gl]? = some (.cells #[.int .u32 (fr : Int), .int .i64 rt] 71 (0, 0)) → (W.heap[gl]? = some (.cells #[.int .u32 (fr : Int), .int .i64 rt] 71 (0, 0)) ∧ W.cell? ⟨gl, 0, none⟩ = some (.int .u32 (fr : Int)) ∧ W.cell? ⟨gl, 1, none⟩ = some (.int .i64 rt))) := fun W h => ⟨h, cell_row (j := 0) h rfl, cell_row (j := 1) h rfl⟩
    refine wp_region_T (fun W => W.heap[gl]? = some (.cells #[.int .u32 (fr : Int), .int .i64 rt] 71 (0, 0)) ∧ W.cell? ⟨gl, 0, none⟩ = some (.int .u32 (fr : Int)) ∧ W.cell? ⟨gl, 1, none⟩ = some (.int .i64 rt)) [] (by kernel_rfl) ?_
    change wpAnyT _ _ _ _ _ _ _ _ _ (World.drew _)
    have S1 := kb.out w7.drew K7.out
    have H8 : Hid (Bld B (printT (ls.take k)) w7.drew) := H7.out.below (Below.drew (Below.refl _ _))
    have B8 : Hid (Below B w1 w7.drew) := B7.out.drew
    have HS8 : Hid (B + 1 ≤ w7.drew.heap.size) := HS7.out
    clear H7 B7 HS7 K7
    generalize w7.drew = w8 at *
    refine wpAnyT_pure (i := 0) (v := ?_) rfl (by kernel_rfl) (by kernel_rfl) (by kernel_rfl) (by kernel_rfl) (fun _ _ _ h => h) (Or.inl ⟨by kernel_rfl, ?_⟩) (fun _ => by assumption) ?_
    rotate_left
    · intro V hV; clear hV; go_simp; try (with_reducible rfl)
    try simp only [Act.put, List.getElem_toArray, List.getElem_cons_succ, List.getElem_cons_zero, List.setIfInBounds_toArray, List.set_cons_zero, List.set_cons_succ]
    refine wpAnyT_take (i := 1) (v := ?_) rfl (by kernel_rfl) (by kernel_rfl) (by kernel_rfl) (by kernel_rfl) (fun _ _ _ h => h) (Or.inl ⟨by kernel_rfl, ?_⟩) (by assumption) ?_
    rotate_left
    · intro V hV; have k := KS.out V hV; clear hV; go_simp; try (with_reducible rfl)
    try simp only [Act.put, List.getElem_toArray, List.getElem_cons_succ, List.getElem_cons_zero, List.setIfInBounds_toArray, List.set_cons_zero, List.set_cons_succ]
    refine wpAnyT_pure (i := 2) (v := ?_) rfl (by kernel_rfl) (by kernel_rfl) (by kernel_rfl) (by kernel_rfl) (fun _ _ _ h => h) (Or.inl ⟨by kernel_rfl, ?_⟩) (fun _ => by assumption) ?_
    rotate_left
    · intro V hV; clear hV; go_simp; try (with_reducible rfl)
    try simp only [Act.put, List.getElem_toArray, List.getElem_cons_succ, List.getElem_cons_zero, List.setIfInBounds_toArray, List.set_cons_zero, List.set_cons_succ]
    refine wpAnyT_pure (i := 6) (v := ?_) rfl (by kernel_rfl) (by kernel_rfl) (by kernel_rfl) (by kernel_rfl) (fun _ _ _ h => h) (Or.inl ⟨by kernel_rfl, ?_⟩) (fun _ => by assumption) ?_
    rotate_left
    · intro V hV; clear hV; go_simp; try (with_reducible rfl)
    try simp only [Act.put, List.getElem_toArray, List.getElem_cons_succ, List.getElem_cons_zero, List.setIfInBounds_toArray, List.set_cons_zero, List.set_cons_succ]
    refine wpAnyT_take (i := 7) (v := ?_) rfl (by kernel_rfl) (by kernel_rfl) (by kernel_rfl) (by kernel_rfl) (fun _ _ _ h => h) (Or.inl ⟨by kernel_rfl, ?_⟩) (by assumption) ?_
    rotate_left
    · intro V hV; have k := KS.out V hV; clear hV; go_simp; try (with_reducible rfl)
    try simp only [Act.put, List.getElem_toArray, List.getElem_cons_succ, List.getElem_cons_zero, List.setIfInBounds_toArray, List.set_cons_zero, List.set_cons_succ]
    have HD := Lib.hid (dig_any fr (by omega) w8 (HLX.out _ B8.out).1)
    refine wpAnyT_one (i := 3) (by kernel_rfl) rfl (fun K hK => ?_)
    go_simp
    rw [show IntKind.u64.wrap (fr : Int) = (fr : Int) by rw [wrap_u64n]; omega]
    refine HD.out.mono ?_
    rintro e w9 ⟨rfl, hb9⟩
    have S9 := kb.out w9 (kept S1.1 hb9)
    refine hK.out _ _ (fun _ => S9) ?_
    have H9 : Hid (Bld B (printT (ls.take k)) w9) := H8.out.below hb9
    have B9 : Hid (Below B w1 w9) := B8.out.trans (hb9.mono (by have := HS8.out; omega))
    have HS9 : Hid (B + 1 ≤ w9.heap.size) := Nat.le_trans HS8.out hb9.size
    clear hK K S1 hb9 HD H8 B8 HS8
    try simp only [Act.put, List.getElem_toArray, List.getElem_cons_succ, List.getElem_cons_zero, List.setIfInBounds_toArray, List.set_cons_zero, List.set_cons_succ]
    have hdF := decS_data fr
    have hsF : (decS fr).size ≤ 20 := decS_size fr (by omega)
    generalize decS fr = FS at *
    have f1 : ¬ 9223372036854775807 < 3 + FS.size := by omega
    have f2 : ¬ 9223372036854775807 < 3 + FS.size + 7 := by omega
    refine wpAnyT_pure (i := 4) (v := ?_) rfl (by kernel_rfl) (by kernel_rfl) (by kernel_rfl) (by kernel_rfl) (fun _ _ _ h => h) (Or.inl ⟨by kernel_rfl, ?_⟩) (fun _ => by assumption) ?_
    rotate_left
    · intro V hV; clear hV; go_simp; try (with_reducible rfl)
    try simp only [Act.put, List.getElem_toArray, List.getElem_cons_succ, List.getElem_cons_zero, List.setIfInBounds_toArray, List.set_cons_zero, List.set_cons_succ]
    refine wpAnyT_pure (i := 5) (v := ?_) rfl (by kernel_rfl) (by kernel_rfl) (by kernel_rfl) (by kernel_rfl) (fun _ _ _ h => h) (Or.inl ⟨by kernel_rfl, ?_⟩) (fun _ => by assumption) ?_
    rotate_left
    · intro V hV; clear hV; go_simp; try (with_reducible rfl)
    try simp only [Act.put, List.getElem_toArray, List.getElem_cons_succ, List.getElem_cons_zero, List.setIfInBounds_toArray, List.set_cons_zero, List.set_cons_succ]
    have HI := Lib.hid (itoa_any rt hr0 hr1 w9 (HLX.out _ B9.out).1)
    refine wpAnyT_one (i := 8) (by kernel_rfl) rfl (fun K hK => ?_)
    go_simp
    refine HI.out.mono ?_
    rintro e w10 ⟨rfl, hb10⟩
    have S10 := kb.out w10 (kept S9.1 hb10)
    refine hK.out _ _ (fun _ => S10) ?_
    have H10 : Hid (Bld B (printT (ls.take k)) w10) := H9.out.below hb10
    have B10 : Hid (Below B w1 w10) := B9.out.trans (hb10.mono (by have := HS9.out; omega))
    have HS10 : Hid (B + 1 ≤ w10.heap.size) := Nat.le_trans HS9.out hb10.size
    clear hK K S9 hb10 HI H9 B9 HS9
    try simp only [Act.put, List.getElem_toArray, List.getElem_cons_succ, List.getElem_cons_zero, List.setIfInBounds_toArray, List.set_cons_zero, List.set_cons_succ]
    have hdR : (itoaB rt).data.toList = Lib.itoa rt := rfl
    have hsR : (itoaB rt).size ≤ 21 := by rw [← size_list, hdR]; exact itoa_len rt hr0 hr1
    generalize itoaB rt = RS at *
    have f3 : ¬ 9223372036854775807 < 3 + FS.size + 7 + RS.size := by omega
    have f4 : ¬ 9223372036854775807 < 3 + FS.size + 7 + RS.size + 1 := by omega
    refine wpAnyT_pure (i := 9) (v := ?_) rfl (by kernel_rfl) (by kernel_rfl) (by kernel_rfl) (by kernel_rfl) (fun _ _ _ h => h) (Or.inl ⟨by kernel_rfl, ?_⟩) (fun _ => by assumption) ?_
    rotate_left
    · intro V hV; clear hV; go_simp; try (with_reducible rfl)
    try simp only [Act.put, List.getElem_toArray, List.getElem_cons_succ, List.getElem_cons_zero, List.setIfInBounds_toArray, List.set_cons_zero, List.set_cons_succ]
    refine wpAnyT_pure (i := 10) (v := ?_) rfl (by kernel_rfl) (by kernel_rfl) (by kernel_rfl) (by kernel_rfl) (fun _ _ _ h => h) (Or.inl ⟨by kernel_rfl, ?_⟩) (fun _ => by assumption) ?_
    rotate_left
    · intro V hV; clear hV; go_simp; try (with_reducible rfl)
    try simp only [Act.put, List.getElem_toArray, List.getElem_cons_succ, List.getElem_cons_zero, List.setIfInBounds_toArray, List.set_cons_zero, List.set_cons_succ]
    have hdL : (({ data := #[97, 116, 32] } : ByteArray) ++ FS ++ { data := #[32, 114, 111, 117, 116, 101, 32] } ++ RS ++ { data := #[10] }).data.toList = lineT ⟨fr, rt⟩ := by
      rw [data_app, data_app, data_app, data_app, hdF, hdR]; rfl
    have hsL : (({ data := #[97, 116, 32] } : ByteArray) ++ FS ++ { data := #[32, 114, 111, 117, 116, 101, 32] } ++ RS ++ { data := #[10] }).size ≤ 60 := by rw [← size_list, hdL]; exact hlx
    have HWr := Lib.hid (bw_any B _ (({ data := #[97, 116, 32] } : ByteArray) ++ FS ++ { data := #[32, 114, 111, 117, 116, 101, 32] } ++ RS ++ { data := #[10] }) w10 H10.out (by omega) (by have := HS10.out; omega))
    refine wpAnyT_one (i := 11) (by kernel_rfl) rfl (fun K hK => ?_)
    go_simp
    refine HWr.out.mono ?_
    rintro e w11 ⟨rfl, h11, hb11, ho11⟩
    have S11 := kb.out w11 (ho11 gl _ S10.1 (fun e => by have := HSK.out; have e := Option.some.inj e; omega) (fun c fz e => by cases e))
    refine hK.out _ _ (fun _ => S11) ?_
    rw [hdL, ← HTK.out] at h11
    have H11 := Lib.hid h11
    have B11 : Hid (Below B w1 w11) := B10.out.trans hb11
    have HS11 : Hid (B + 1 ≤ w11.heap.size) := Nat.le_trans HS10.out hb11.size
    clear hK K S10 S11 h11 hb11 ho11 HWr H10 B10 HS10 hdL hsL
    try simp only [Act.put, List.getElem_toArray, List.getElem_cons_succ, List.getElem_cons_zero, List.setIfInBounds_toArray, List.set_cons_zero, List.set_cons_succ]
    refine wpAnyT_done (by kernel_rfl) ?_ _
    go_wp2_with fail
    refine ⟨⟨k + 1, by omega, by go_num, H11, B11, HS11⟩, ?_⟩
    simp [intOf]; omega
end Go.Proofs.YtdlpgoackmgdkaaGreatDoor
