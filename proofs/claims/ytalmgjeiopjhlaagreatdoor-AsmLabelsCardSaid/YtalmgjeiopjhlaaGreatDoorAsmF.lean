/- The document's Assemble. -/
import Derived.Test.YtalmgjeiopjhlaaGreatDoorAsmE
namespace Go.Proofs.YtalmgjeiopjhlaaGreatDoor
open Go.Shelf Go.RowKit
set_option linter.unusedVariables false
set_option linter.unusedSimpArgs false
theorem findI_some {ls : List AL} {s : ByteArray} {m : Nat} (h : findO ls s = some m) : findI ls s = (m : Int) := by unfold findI; rw [h]
theorem findI_none {ls : List AL} {s : ByteArray} (h : findO ls s = none) : findI ls s = -1 := by unfold findI; rw [h]
set_option maxRecDepth 100000 in
set_option maxHeartbeats 4000000 in
theorem rasm_any (ls : List AL) (a : Option Addr) (c : Nat) (w : World) (hA : AlsAt w a ls) (hok : ∀ i, i < ls.length → (ls.getD i al0).ok) (hm : ls.length ≤ 9223372036854775807) :
    Calls Tryz.prog 11 #[.slice a ls.length c] w fun e w' => OutI w.heap.size w' (asmS ls) e ∧ Below w.heap.size w w' := by
  by_cases hbig : 16384 < ls.length
  · have t1 : decide ((16384 : Int) < (ls.length : Int)) = true := decide_eq_true (by omega)
    have HR : asmS ls = ([], 0, 3) := by unfold asmS; rw [if_pos hbig]
    rw [HR]
    go_enter Tryz.func11, Tryz.ntmps11
    go_wp2_with fail
    go_ret3
    exact ⟨OutI.none _ _ _ _, Below.refl _ _⟩
  have t1 : decide ((16384 : Int) < (ls.length : Int)) = false := decide_eq_false (by omega)
  have HA := Lib.hid hA; have HOKS := Lib.hid hok
  have HRA : Hid (∀ i, first (mayL ls) ls.length = some i → asmS ls = ([], i, 2)) := fun i h => by unfold asmS; rw [if_neg hbig, h]
  have HRB : Hid (∀ i, first (mayL ls) ls.length = none → first (badL ls) ls.length = some i → asmS ls = ([], i, 101)) := fun i h h2 => by unfold asmS; rw [if_neg hbig, h]; simp only [h2]
  have HRC : Hid (first (mayL ls) ls.length = none → first (badL ls) ls.length = none → asmS ls = (insL ls ls.length, 0, 0)) := fun h h2 => by unfold asmS; rw [if_neg hbig, h]; simp only [h2]; rfl
  have HFD : Hid (∀ (s : ByteArray) (W : World), AlsAt W a ls → Calls Tryz.prog 25 #[.slice a ls.length c, .string s] W fun e w' => e = .returned (.int .i64 (findI ls s)) ∧ w' = W) := fun s W h => find_any ls a c s W h hm
  clear hA hok
  generalize hn : ls.length = n at *
  obtain ⟨i0, hi, hz0, hz1, hz2⟩ := info_parts (show (Tryz.prog.info? 32).map (fun i => (i.zero, i.size, i.bytes)) = some (some (.agg #[.int .u8 0, .int .u8 0, .int .u16 0, .int .u32 0]), 4, 8) by kernel_rfl)
  have HIn := Lib.hid hi; have HZ0 := Lib.hid hz0; have HZ1 := Lib.hid hz1; have HZ2 := Lib.hid hz2
  clear hi hz0 hz1 hz2
  go_enter Tryz.func11, Tryz.ntmps11
  go_wp2_with fail
  go_loopw [5] (fun i wr => ∃ k : Nat, k ≤ n ∧ i = .int .i64 (k : Int) ∧ Hid (∀ j, j < k → mayL ls j = false) ∧ Hid (Below w.heap.size w wr)) (fun i _ => n - (intOf i).toNat)
  case atStart => exact ⟨0, Nat.zero_le _, rfl, fun j hj => absurd hj (by omega), Below.refl _ _⟩
  case round =>
    obtain ⟨k, hk, rfl, HS, BB⟩ := hrel
    rcases Nat.lt_or_ge k n with hk2 | hk2
    case inl =>
      have t2 : decide ((k : Int) < (n : Int)) = true := decide_eq_true (by omega)
      obtain ⟨b, off, rfl, hb, hc⟩ := HA.out.at (by omega)
      have a0 : wr.cell? ⟨b, off + k * 6, none⟩ = some (.string (ls.getD k al0).lab) := (BB.out.cell hb).trans (hc k (by omega) 0 (by omega))
      have a1 : wr.cell? ⟨b, off + k * 6 + 1, none⟩ = some (.int .u8 ((ls.getD k al0).i.op : Int)) := (BB.out.cell hb).trans (hc k (by omega) 1 (by omega))
      have a2 : wr.cell? ⟨b, off + k * 6 + 2, none⟩ = some (.int .u8 ((ls.getD k al0).i.a : Int)) := (BB.out.cell hb).trans (hc k (by omega) 2 (by omega))
      have a3 : wr.cell? ⟨b, off + k * 6 + 3, none⟩ = some (.int .u16 ((ls.getD k al0).i.b : Int)) := (BB.out.cell hb).trans (hc k (by omega) 3 (by omega))
      have a4 : wr.cell? ⟨b, off + k * 6 + 4, none⟩ = some (.int .u32 ((ls.getD k al0).i.c : Int)) := (BB.out.cell hb).trans (hc k (by omega) 4 (by omega))
      have a5 : wr.cell? ⟨b, off + k * 6 + 5, none⟩ = some (.string (ls.getD k al0).tgt) := (BB.out.cell hb).trans (hc k (by omega) 5 (by omega))
      clear hc
      have HO := Lib.hid (HOKS.out k hk2)
      have HMA : Hid (mayL ls k = !(ls.getD k al0).may) := rfl
      generalize (ls.getD k al0) = x at *
      have HC := fun W => ralm_any x W HO.out
      unfold AL.val AL.cells at HC
      have HC := Lib.hid HC
      generalize x.may = my at *
      obtain ⟨lab, ⟨op, ia, ib, ic⟩, tgt⟩ := x
      simp only at a0 a1 a2 a3 a4 a5 HC
      go_wp2_with fail
      refine (HC.out _).mono ?_
      rintro e w2 ⟨rfl, hb2⟩
      have B2 : Hid (Below w.heap.size w w2) := BB.out.trans (hb2.mono BB.out.size)
      clear hb2 a0 a1 a2 a3 a4 a5 BB HC
      cases my with
      | false =>
        have HF := Lib.hid (HRA.out k (first_some hk2 HMA.out HS.out))
        go_wp2_with fail
        go_ret3
        exact ⟨by rw [HF.out]; exact OutI.none _ _ _ _, B2.out⟩
      | true =>
      have HS' : Hid (∀ j, j < k + 1 → mayL ls j = false) := fun j hj => by rcases Nat.lt_succ_iff_lt_or_eq.1 hj with h | rfl <;> first | exact HS.out _ h | exact HMA.out
      go_wp2_with fail
      refine ⟨⟨k + 1, by omega, by go_num, HS', B2⟩, ?_⟩
      simp [intOf]; omega
    obtain rfl : k = n := by omega
    have t2 : decide ((k : Int) < (k : Int)) = false := by simp
    have HN := Lib.hid (first_none HS.out)
    clear HS HRA
    go_wp2_with fail
    go_loopw [6, 7] (fun v i wr => ∃ q : Nat, q ≤ k ∧ i = .int .i64 (q : Int) ∧ Hid (∀ j, j < q → badL ls j = false) ∧ Hid (wr.ownsRow w.heap.size 32 4 v q (insVs (insL ls q))) ∧ Hid (Below w.heap.size w wr)) (fun _ i _ => k - (intOf i).toNat)
    case atStart => exact ⟨0, Nat.zero_le _, rfl, fun j hj => absurd hj (by omega), World.ownsRow_nil _ _ _ _, BB⟩
    case round =>
      clear BB
      obtain ⟨q, hq, rfl, HS, HO, BB⟩ := hrel
      rcases Nat.lt_or_ge q k with hq2 | hq2
      case inr =>
        obtain rfl : q = k := by omega
        have t3 : decide ((q : Int) < (q : Int)) = false := by simp
        have HF := Lib.hid (HRC.out HN.out (first_none HS.out))
        go_wp2_with fail
        go_ret3
        refine ⟨?_, BB.out⟩
        rw [HF.out]
        exact ⟨_, rfl, by rw [insL_len]; exact HO.out⟩
      have t3 : decide ((q : Int) < (k : Int)) = true := decide_eq_true (by omega)
      have HA2 := Lib.hid (HA.out.below BB.out)
      obtain ⟨b, off, rfl, hb, hc⟩ := HA.out.at (by omega)
      have a0 : wr.cell? ⟨b, off + q * 6, none⟩ = some (.string (ls.getD q al0).lab) := (BB.out.cell hb).trans (hc q (by omega) 0 (by omega))
      have a1 : wr.cell? ⟨b, off + q * 6 + 1, none⟩ = some (.int .u8 ((ls.getD q al0).i.op : Int)) := (BB.out.cell hb).trans (hc q (by omega) 1 (by omega))
      have a2 : wr.cell? ⟨b, off + q * 6 + 2, none⟩ = some (.int .u8 ((ls.getD q al0).i.a : Int)) := (BB.out.cell hb).trans (hc q (by omega) 2 (by omega))
      have a3 : wr.cell? ⟨b, off + q * 6 + 3, none⟩ = some (.int .u16 ((ls.getD q al0).i.b : Int)) := (BB.out.cell hb).trans (hc q (by omega) 3 (by omega))
      have a4 : wr.cell? ⟨b, off + q * 6 + 4, none⟩ = some (.int .u32 ((ls.getD q al0).i.c : Int)) := (BB.out.cell hb).trans (hc q (by omega) 4 (by omega))
      have a5 : wr.cell? ⟨b, off + q * 6 + 5, none⟩ = some (.string (ls.getD q al0).tgt) := (BB.out.cell hb).trans (hc q (by omega) 5 (by omega))
      clear hc
      have HOK := Lib.hid (HOKS.out q hq2)
      obtain ⟨fl, hfl⟩ := find_self (show q < ls.length by omega)
      have HBD : badL ls q = ((!(ls.getD q al0).lab.toList.isEmpty && !(findO ls (ls.getD q al0).lab == some q)) || (!(ls.getD q al0).tgt.toList.isEmpty && !(findO ls (ls.getD q al0).tgt).isSome)) := rfl
      have HIN : insL ls (q + 1) = insL ls q ++ [if (ls.getD q al0).tgt.toList.isEmpty then (ls.getD q al0).i else ⟨(ls.getD q al0).i.op, (ls.getD q al0).i.a, (ls.getD q al0).i.b, (findO ls (ls.getD q al0).tgt).getD 0⟩] := insL_succ ls q
      generalize (ls.getD q al0) = x at *
      obtain ⟨lab, ⟨op, ia, ib, ic⟩, tgt⟩ := x
      simp only at a0 a1 a2 a3 a4 a5 HBD HIN hfl
      go_upto_region 13 with fail
      have G0 : Hid ((wr.alloc (.cells #[.string lab, .int .u8 (op : Int), .int .u8 (ia : Int), .int .u16 (ib : Int), .int .u32 (ic : Int), .string tgt] 34)).heap[wr.heap.size]? = some (.cells #[.string lab, .int .u8 (op : Int), .int .u8 (ia : Int), .int .u16 (ib : Int), .int .u32 (ic : Int), .string tgt] 34 (0, 0))) := heap_alloc_new _ _
      have A0 : Hid (AlsAt (wr.alloc (.cells #[.string lab, .int .u8 (op : Int), .int .u8 (ia : Int), .int .u16 (ib : Int), .int .u32 (ic : Int), .string tgt] 34)) (some ⟨b, off, none⟩) ls) := HA2.out.below (alloc_below _ _)
      have B0 : Hid (Below w.heap.size w (wr.alloc (.cells #[.string lab, .int .u8 (op : Int), .int .u8 (ia : Int), .int .u16 (ib : Int), .int .u32 (ic : Int), .string tgt] 34))) := BB.out.alloc BB.out.size _
      have O0 : Hid ((wr.alloc (.cells #[.string lab, .int .u8 (op : Int), .int .u8 (ia : Int), .int .u16 (ib : Int), .int .u32 (ic : Int), .string tgt] 34)).ownsRow w.heap.size 32 4 u6 q (insVs (insL ls q))) := HO.out.alloc _
      generalize wr.alloc (.cells #[.string lab, .int .u8 (op : Int), .int .u8 (ia : Int), .int .u16 (ib : Int), .int .u32 (ic : Int), .string tgt] 34) = w1 at *
      have hBg : Hid (w.heap.size ≤ wr.heap.size) := BB.out.size
      have hOg : Hid (∀ j, u6.ownBlock = some j → j < wr.heap.size) := fun j hj => (HO.out.lt j hj).2
      clear BB HO HA2
      generalize hg : wr.heap.size = g at *
      have HC1 : Hid (∀ s : ByteArray, Calls Tryz.prog 25 #[.slice (some ⟨b, off, none⟩) k c, .string s] w1 fun e w' => e = .returned (.int .i64 (findI ls s)) ∧ w' = w1) := fun s => HFD.out s w1 A0.out
      rw [hfl] at HBD
      have HFL := findI_some hfl
      have c0 := cell_row (j := 0) G0.out rfl
      have c1 := cell_row (j := 1) G0.out rfl
      have c2 := cell_row (j := 2) G0.out rfl
      have c3 := cell_row (j := 3) G0.out rfl
      have c4 := cell_row (j := 4) G0.out rfl
      have c5 := cell_row (j := 5) G0.out rfl
      clear a0 a1 a2 a3 a4 a5
      cases hle : lab.toList.isEmpty with
      | true =>
        have hlb : (!true && !(some fl == some q)) = false := rfl
        rw [hle] at HBD
        clear HFL
        cases hte : tgt.toList.isEmpty with
        | true =>
          rw [hte] at HBD HIN
          have HOKK : badL ls q = false := by rw [HBD]; simp [hlb]
          rw [if_pos rfl] at HIN
          clear HBD
          go_upto_region 20 with fail
          -- the instruction lies in block G0 of w1; it is appended
          clear c0 c1 c2 c3 c4 c5
          have c0 := cell_row (j := 0) G0.out rfl
          have c1 := cell_row (j := 1) G0.out rfl
          have c2 := cell_row (j := 2) G0.out rfl
          have c3 := cell_row (j := 3) G0.out rfl
          have c4 := cell_row (j := 4) G0.out rfl
          have c5 := cell_row (j := 5) G0.out rfl
          have OA := Lib.hid (O0.out.alloc (.cells #[.int .u8 (op : Int), .int .u8 (ia : Int), .int .u16 (ib : Int), .int .u32 (ic : Int)] 32))
          have HW : Hid (∀ j u, [Value.int .u8 (op : Int), .int .u8 (ia : Int), .int .u16 (ib : Int), .int .u32 (ic : Int)][j]? = some u → (w1.alloc (.cells #[.int .u8 (op : Int), .int .u8 (ia : Int), .int .u16 (ib : Int), .int .u32 (ic : Int)] 32)).cell? ((⟨w1.heap.size, 0, none⟩ : Addr).add j) = some u) := four_news _ _ _ _ _ _
          go_wp2_with (at_builtin; refine wpList_append_own _ rfl _ _ 25 rfl w.heap.size 32 i0 (.agg #[.int .u8 0, .int .u8 0, .int .u16 0, .int .u32 0]) 4 8 Tryz.underlying25 HIn.out HZ0.out HZ1.out HZ2.out rfl (by decide) u6 q _ rfl OA.out ⟨w1.heap.size, 0, none⟩ 1 1 [.int .u8 (op : Int), .int .u8 (ia : Int), .int .u16 (ib : Int), .int .u32 (ic : Int)] rfl rfl HW.out (fun u hu => by simp at hu; rcases hu with rfl | rfl | rfl | rfl <;> rfl) (by unfold maxLen; omega) (by omega) (by simp; have := B0.out.size; omega) ?_)
          intro v2 w2 ho2 hg2 _
          have B2 : Hid (Below w.heap.size w w2) := (B0.out.alloc B0.out.size _).grown hg2 (by simp; have := B0.out.size; omega) (fun j hj => (O0.out.lt j hj).1)
          have HOKS' : Hid (∀ j, j < q + 1 → badL ls j = false) := fun j hj => by rcases Nat.lt_succ_iff_lt_or_eq.1 hj with h | rfl <;> first | exact HS.out _ h | exact HOKK
          rw [insVs_snoc' HIN] at ho2
          have O2 := Lib.hid ho2
          clear ho2 hg2 OA HW
          go_wp2_with fail
          refine ⟨⟨q + 1, by omega, by go_num, HOKS', O2, B2⟩, ?_⟩
          simp [intOf]; omega
        | false =>
          rw [hte, if_neg (by decide)] at HIN
          rw [hte] at HBD
          go_wp2_with fail
          refine (HC1.out tgt).mono ?_
          rintro e w' ⟨rfl, hw⟩
          obtain rfl : w1 = w' := hw.symm
          cases hft : findO ls tgt with
          | none =>
            rw [hft] at HBD
            have HFT := findI_none hft
            rw [HFT]
            have HBK : badL ls q = true := by rw [HBD]; simp
            clear HBD HIN HFT
            have HF := Lib.hid (HRB.out q HN.out (first_some hq2 HBK HS.out))
            go_wp2_with fail
            go_ret3
            exact ⟨by rw [HF.out]; exact OutI.none _ _ _ _, B0.out⟩
          | some mt =>
            rw [hft] at HBD HIN
            have HFT := findI_some hft
            rw [HFT]
            have HOKK : badL ls q = false := by rw [HBD]; simp [hlb]
            simp only [Option.getD_some] at HIN
            clear HBD HFT
            have hmt : mt < 4294967296 := by have := (first_lt hft).1; omega
            have tm : decide ((mt : Int) < 0) = false := decide_eq_false (by omega)
            have f4 : w1.frozen? ⟨g, 4, none⟩ = false := frozen_of_row _ _ _ _ _ G0.out
            go_upto_region 20 with fail
            have G5 : Hid ((w1.setCell ⟨g, 4, none⟩ (.int .u32 (mt : Int))).heap[g]? = some (.cells #[.string lab, .int .u8 (op : Int), .int .u8 (ia : Int), .int .u16 (ib : Int), .int .u32 (mt : Int), .string tgt] 34 (0, 0))) := heap_setCell_same _ _ _ _ _ _ G0.out
            have B5 : Hid (Below w.heap.size w (w1.setCell ⟨g, 4, none⟩ (.int .u32 (mt : Int)))) := B0.out.setCell (p := ⟨g, 4, none⟩) hBg.out _
            have O5 : Hid ((w1.setCell ⟨g, 4, none⟩ (.int .u32 (mt : Int))).ownsRow w.heap.size 32 4 u6 q (insVs (insL ls q))) := own_same O0.out fun j hj => heap_setCell_other _ _ _ _ (Nat.ne_of_lt (hOg.out j hj))
            generalize w1.setCell ⟨g, 4, none⟩ (.int .u32 (mt : Int)) = w5 at *
            clear G0 B0 O0
            -- the instruction lies in block G5 of w5; it is appended
            clear c0 c1 c2 c3 c4 c5
            have c0 := cell_row (j := 0) G5.out rfl
            have c1 := cell_row (j := 1) G5.out rfl
            have c2 := cell_row (j := 2) G5.out rfl
            have c3 := cell_row (j := 3) G5.out rfl
            have c4 := cell_row (j := 4) G5.out rfl
            have c5 := cell_row (j := 5) G5.out rfl
            have OA := Lib.hid (O5.out.alloc (.cells #[.int .u8 (op : Int), .int .u8 (ia : Int), .int .u16 (ib : Int), .int .u32 (mt : Int)] 32))
            have HW : Hid (∀ j u, [Value.int .u8 (op : Int), .int .u8 (ia : Int), .int .u16 (ib : Int), .int .u32 (mt : Int)][j]? = some u → (w5.alloc (.cells #[.int .u8 (op : Int), .int .u8 (ia : Int), .int .u16 (ib : Int), .int .u32 (mt : Int)] 32)).cell? ((⟨w5.heap.size, 0, none⟩ : Addr).add j) = some u) := four_news _ _ _ _ _ _
            go_wp2_with (at_builtin; refine wpList_append_own _ rfl _ _ 25 rfl w.heap.size 32 i0 (.agg #[.int .u8 0, .int .u8 0, .int .u16 0, .int .u32 0]) 4 8 Tryz.underlying25 HIn.out HZ0.out HZ1.out HZ2.out rfl (by decide) u6 q _ rfl OA.out ⟨w5.heap.size, 0, none⟩ 1 1 [.int .u8 (op : Int), .int .u8 (ia : Int), .int .u16 (ib : Int), .int .u32 (mt : Int)] rfl rfl HW.out (fun u hu => by simp at hu; rcases hu with rfl | rfl | rfl | rfl <;> rfl) (by unfold maxLen; omega) (by omega) (by simp; have := B5.out.size; omega) ?_)
            intro v2 w2 ho2 hg2 _
            have B2 : Hid (Below w.heap.size w w2) := (B5.out.alloc B5.out.size _).grown hg2 (by simp; have := B5.out.size; omega) (fun j hj => (O5.out.lt j hj).1)
            have HOKS' : Hid (∀ j, j < q + 1 → badL ls j = false) := fun j hj => by rcases Nat.lt_succ_iff_lt_or_eq.1 hj with h | rfl <;> first | exact HS.out _ h | exact HOKK
            rw [insVs_snoc' HIN] at ho2
            have O2 := Lib.hid ho2
            clear ho2 hg2 OA HW
            go_wp2_with fail
            refine ⟨⟨q + 1, by omega, by go_num, HOKS', O2, B2⟩, ?_⟩
            simp [intOf]; omega
      | false =>
        go_wp2_with fail
        refine (HC1.out lab).mono ?_
        rintro e w' ⟨rfl, hw⟩
        obtain rfl : w1 = w' := hw.symm
        rw [HFL]
        clear HFL
        by_cases hflq : fl = q
        · rw [hflq] at HBD hfl
          rw [hflq]
          clear hflq
          have tq : ((q : Int) != (q : Int)) = false := by simp
          have hlb : (!false && !(some q == some q)) = false := by simp
          rw [hle] at HBD
          cases hte : tgt.toList.isEmpty with
          | true =>
            rw [hte] at HBD HIN
            have HOKK : badL ls q = false := by rw [HBD]; simp [hlb]
            rw [if_pos rfl] at HIN
            clear HBD
            go_upto_region 20 with fail
            -- the instruction lies in block G0 of w1; it is appended
            clear c0 c1 c2 c3 c4 c5
            have c0 := cell_row (j := 0) G0.out rfl
            have c1 := cell_row (j := 1) G0.out rfl
            have c2 := cell_row (j := 2) G0.out rfl
            have c3 := cell_row (j := 3) G0.out rfl
            have c4 := cell_row (j := 4) G0.out rfl
            have c5 := cell_row (j := 5) G0.out rfl
            have OA := Lib.hid (O0.out.alloc (.cells #[.int .u8 (op : Int), .int .u8 (ia : Int), .int .u16 (ib : Int), .int .u32 (ic : Int)] 32))
            have HW : Hid (∀ j u, [Value.int .u8 (op : Int), .int .u8 (ia : Int), .int .u16 (ib : Int), .int .u32 (ic : Int)][j]? = some u → (w1.alloc (.cells #[.int .u8 (op : Int), .int .u8 (ia : Int), .int .u16 (ib : Int), .int .u32 (ic : Int)] 32)).cell? ((⟨w1.heap.size, 0, none⟩ : Addr).add j) = some u) := four_news _ _ _ _ _ _
            go_wp2_with (at_builtin; refine wpList_append_own _ rfl _ _ 25 rfl w.heap.size 32 i0 (.agg #[.int .u8 0, .int .u8 0, .int .u16 0, .int .u32 0]) 4 8 Tryz.underlying25 HIn.out HZ0.out HZ1.out HZ2.out rfl (by decide) u6 q _ rfl OA.out ⟨w1.heap.size, 0, none⟩ 1 1 [.int .u8 (op : Int), .int .u8 (ia : Int), .int .u16 (ib : Int), .int .u32 (ic : Int)] rfl rfl HW.out (fun u hu => by simp at hu; rcases hu with rfl | rfl | rfl | rfl <;> rfl) (by unfold maxLen; omega) (by omega) (by simp; have := B0.out.size; omega) ?_)
            intro v2 w2 ho2 hg2 _
            have B2 : Hid (Below w.heap.size w w2) := (B0.out.alloc B0.out.size _).grown hg2 (by simp; have := B0.out.size; omega) (fun j hj => (O0.out.lt j hj).1)
            have HOKS' : Hid (∀ j, j < q + 1 → badL ls j = false) := fun j hj => by rcases Nat.lt_succ_iff_lt_or_eq.1 hj with h | rfl <;> first | exact HS.out _ h | exact HOKK
            rw [insVs_snoc' HIN] at ho2
            have O2 := Lib.hid ho2
            clear ho2 hg2 OA HW
            go_wp2_with fail
            refine ⟨⟨q + 1, by omega, by go_num, HOKS', O2, B2⟩, ?_⟩
            simp [intOf]; omega
          | false =>
            rw [hte, if_neg (by decide)] at HIN
            rw [hte] at HBD
            go_wp2_with fail
            refine (HC1.out tgt).mono ?_
            rintro e w' ⟨rfl, hw⟩
            obtain rfl : w1 = w' := hw.symm
            cases hft : findO ls tgt with
            | none =>
              rw [hft] at HBD
              have HFT := findI_none hft
              rw [HFT]
              have HBK : badL ls q = true := by rw [HBD]; simp
              clear HBD HIN HFT
              have HF := Lib.hid (HRB.out q HN.out (first_some hq2 HBK HS.out))
              go_wp2_with fail
              go_ret3
              exact ⟨by rw [HF.out]; exact OutI.none _ _ _ _, B0.out⟩
            | some mt =>
              rw [hft] at HBD HIN
              have HFT := findI_some hft
              rw [HFT]
              have HOKK : badL ls q = false := by rw [HBD]; simp [hlb]
              simp only [Option.getD_some] at HIN
              clear HBD HFT
              have hmt : mt < 4294967296 := by have := (first_lt hft).1; omega
              have tm : decide ((mt : Int) < 0) = false := decide_eq_false (by omega)
              have f4 : w1.frozen? ⟨g, 4, none⟩ = false := frozen_of_row _ _ _ _ _ G0.out
              go_upto_region 20 with fail
              have G5 : Hid ((w1.setCell ⟨g, 4, none⟩ (.int .u32 (mt : Int))).heap[g]? = some (.cells #[.string lab, .int .u8 (op : Int), .int .u8 (ia : Int), .int .u16 (ib : Int), .int .u32 (mt : Int), .string tgt] 34 (0, 0))) := heap_setCell_same _ _ _ _ _ _ G0.out
              have B5 : Hid (Below w.heap.size w (w1.setCell ⟨g, 4, none⟩ (.int .u32 (mt : Int)))) := B0.out.setCell (p := ⟨g, 4, none⟩) hBg.out _
              have O5 : Hid ((w1.setCell ⟨g, 4, none⟩ (.int .u32 (mt : Int))).ownsRow w.heap.size 32 4 u6 q (insVs (insL ls q))) := own_same O0.out fun j hj => heap_setCell_other _ _ _ _ (Nat.ne_of_lt (hOg.out j hj))
              generalize w1.setCell ⟨g, 4, none⟩ (.int .u32 (mt : Int)) = w5 at *
              clear G0 B0 O0
              -- the instruction lies in block G5 of w5; it is appended
              clear c0 c1 c2 c3 c4 c5
              have c0 := cell_row (j := 0) G5.out rfl
              have c1 := cell_row (j := 1) G5.out rfl
              have c2 := cell_row (j := 2) G5.out rfl
              have c3 := cell_row (j := 3) G5.out rfl
              have c4 := cell_row (j := 4) G5.out rfl
              have c5 := cell_row (j := 5) G5.out rfl
              have OA := Lib.hid (O5.out.alloc (.cells #[.int .u8 (op : Int), .int .u8 (ia : Int), .int .u16 (ib : Int), .int .u32 (mt : Int)] 32))
              have HW : Hid (∀ j u, [Value.int .u8 (op : Int), .int .u8 (ia : Int), .int .u16 (ib : Int), .int .u32 (mt : Int)][j]? = some u → (w5.alloc (.cells #[.int .u8 (op : Int), .int .u8 (ia : Int), .int .u16 (ib : Int), .int .u32 (mt : Int)] 32)).cell? ((⟨w5.heap.size, 0, none⟩ : Addr).add j) = some u) := four_news _ _ _ _ _ _
              go_wp2_with (at_builtin; refine wpList_append_own _ rfl _ _ 25 rfl w.heap.size 32 i0 (.agg #[.int .u8 0, .int .u8 0, .int .u16 0, .int .u32 0]) 4 8 Tryz.underlying25 HIn.out HZ0.out HZ1.out HZ2.out rfl (by decide) u6 q _ rfl OA.out ⟨w5.heap.size, 0, none⟩ 1 1 [.int .u8 (op : Int), .int .u8 (ia : Int), .int .u16 (ib : Int), .int .u32 (mt : Int)] rfl rfl HW.out (fun u hu => by simp at hu; rcases hu with rfl | rfl | rfl | rfl <;> rfl) (by unfold maxLen; omega) (by omega) (by simp; have := B5.out.size; omega) ?_)
              intro v2 w2 ho2 hg2 _
              have B2 : Hid (Below w.heap.size w w2) := (B5.out.alloc B5.out.size _).grown hg2 (by simp; have := B5.out.size; omega) (fun j hj => (O5.out.lt j hj).1)
              have HOKS' : Hid (∀ j, j < q + 1 → badL ls j = false) := fun j hj => by rcases Nat.lt_succ_iff_lt_or_eq.1 hj with h | rfl <;> first | exact HS.out _ h | exact HOKK
              rw [insVs_snoc' HIN] at ho2
              have O2 := Lib.hid ho2
              clear ho2 hg2 OA HW
              go_wp2_with fail
              refine ⟨⟨q + 1, by omega, by go_num, HOKS', O2, B2⟩, ?_⟩
              simp [intOf]; omega
        · have tq : ((fl : Int) != (q : Int)) = true := bne_iff_ne.2 (by omega)
          have HBK : badL ls q = true := by rw [HBD, hle]; simp [hflq]
          clear HBD HIN
          have HF := Lib.hid (HRB.out q HN.out (first_some hq2 HBK HS.out))
          go_wp2_with fail
          go_ret3
          exact ⟨by rw [HF.out]; exact OutI.none _ _ _ _, B0.out⟩
end Go.Proofs.YtalmgjeiopjhlaaGreatDoor
