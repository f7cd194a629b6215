/- Bytes and Read, the program's and the document's. -/
import Derived.Test.YtalmgjeiopjhlaaGreatDoorAsmE
import Derived.Test.YtalmgjeiopjhlaaGreatDoorIsaBack
import Derived.Test.YtalmgjeiopjhlaaGreatDoorIsaRefD
import Derived.Test.YtalmgjeiopjhlaaGreatDoorIsaRRead
namespace Go.Proofs.YtalmgjeiopjhlaaGreatDoor
open Go.Shelf Go.RowKit Go.WideMaps Go.Maps
set_option linter.unusedVariables false
set_option linter.unusedSimpArgs false
def chunk (X : Nat → Nat) (k : Nat) : Nat → Nat := fun j => X (8 * k + j)
def rdI (X : Nat → Nat) (k : Nat) : Ins := insOf (chunk X k)
def rdBad (X : Nat → Nat) (k : Nat) : Bool := !(rdI X k).may
def rdL (X : Nat → Nat) (k : Nat) : List Ins := (List.range k).map (rdI X)
theorem rdL_succ (X : Nat → Nat) (k : Nat) : rdL X (k + 1) = rdL X k ++ [rdI X k] := by unfold rdL; rw [List.range_succ, List.map_append]; rfl
theorem rdL_len (X : Nat → Nat) (k : Nat) : (rdL X k).length = k := by simp [rdL]
def rdS (len : Nat) (X : Nat → Nat) : List Ins × Nat × Nat :=
  if 131072 < len then ([], 0, 3) else if len % 8 ≠ 0 then ([], 0, 40) else
  match first (rdBad X) (len / 8) with
  | some k => ([], k, 90)
  | none => (rdL X (len / 8), 0, 0)
theorem rdI_ok {X : Nat → Nat} (h : ∀ i, X i < 256) (k : Nat) : (rdI X k).ok := insOf_ok (fun i => h _)
theorem read_some {X : Nat → Nat} {k len : Nat} (h : 8 ≤ len) : readI len (chunk X k) = (if rdBad X k then noIns else rdI X k) ∧ readE len (chunk X k) = (if rdBad X k then 90 else 0) := by
  unfold readI readE rdBad rdI
  rw [if_neg (show ¬ len < 8 by omega), if_neg (show ¬ len < 8 by omega)]
  cases (insOf (chunk X k)).may <;> exact ⟨rfl, rfl⟩
set_option maxRecDepth 100000 in
set_option maxHeartbeats 4000000 in
theorem aread_any (a : Option Addr) (len c : Nat) (X : Nat → Nat) (w : World) (hX : SliceAt w a len (bV X)) (hl : ∀ i, X i < 256) (hm : len ≤ 9223372036854775807) (hcap : len ≤ c) (hcm : c ≤ 9223372036854775807) :
    Calls Tryz.prog 20 #[.slice a len c] w fun e w' => OutI w.heap.size w' (rdS len X) e ∧ Below w.heap.size w w' := by
  by_cases hbig : 131072 < len
  · have t1 : decide ((131072 : Int) < (len : Int)) = true := decide_eq_true (by omega)
    have HR : rdS len X = ([], 0, 3) := by unfold rdS; rw [if_pos hbig]
    rw [HR]
    clear hX
    go_enter Tryz.func20, Tryz.ntmps20
    go_wp2_with fail
    go_ret3
    exact ⟨OutI.none _ _ _ _, Below.refl _ _⟩
  have t1 : decide ((131072 : Int) < (len : Int)) = false := decide_eq_false (by omega)
  by_cases h8 : len % 8 ≠ 0
  · have t2 : (((len : Int) % 8) != 0) = true := bne_iff_ne.2 (by omega)
    have t3 : decide ((0 : Int) < ((len : Int) % 8)) = true := decide_eq_true (by omega)
    have HR : rdS len X = ([], 0, 40) := by unfold rdS; rw [if_neg hbig, if_pos h8]
    rw [HR]
    clear hX
    go_enter Tryz.func20, Tryz.ntmps20
    go_wp2_with fail
    go_ret3
    exact ⟨OutI.none _ _ _ _, Below.refl _ _⟩
  have t2 : (((len : Int) % 8) != 0) = false := by
    have : ((len : Int) % 8) = 0 := by omega
    rw [this]; rfl
  have t3 : decide ((0 : Int) < ((len : Int) % 8)) = false := decide_eq_false (by omega)
  obtain ⟨m, hm8⟩ : ∃ m, len = 8 * m := ⟨len / 8, by omega⟩
  have hm1 : len / 8 = m := by omega
  have HRB : Hid (∀ k, first (rdBad X) m = some k → rdS len X = ([], k, 90)) := fun k h => by unfold rdS; rw [if_neg hbig, if_neg h8, hm1, h]
  have HRC : Hid (first (rdBad X) m = none → rdS len X = (rdL X m, 0, 0)) := fun h => by unfold rdS; rw [if_neg hbig, if_neg h8, hm1, h]
  have hmb : m ≤ 16384 := by omega
  have HX := Lib.hid hX
  have HL := Lib.hid hl
  clear hX hl h8 hbig hm1
  obtain ⟨i0, hi, hz0, hz1, hz2⟩ := info_parts (show (Tryz.prog.info? 32).map (fun i => (i.zero, i.size, i.bytes)) = some (some (.agg #[.int .u8 0, .int .u8 0, .int .u16 0, .int .u32 0]), 4, 8) by kernel_rfl)
  have HIn := Lib.hid hi; have HZ0 := Lib.hid hz0; have HZ1 := Lib.hid hz1; have HZ2 := Lib.hid hz2
  clear hi hz0 hz1 hz2
  generalize rdS len X = rs at *
  have HM8 := Lib.hid hm8
  have hlen1 : 8 * m ≤ len := by omega
  have hlen2 : len ≤ 8 * m := by omega
  clear hm8
  go_enter Tryz.func20, Tryz.ntmps20
  go_wp2_with fail
  clear t2 t3
  go_loopw [5, 6] (fun v i wr => ∃ k : Nat, k ≤ m ∧ i = .int .i64 (8 * (k : Int)) ∧ Hid (∀ j, j < k → rdBad X j = false) ∧ Hid (wr.ownsRow w.heap.size 32 4 v k (insVs (rdL X k))) ∧ Hid (Below w.heap.size w wr)) (fun _ i _ => 8 * m - (intOf i).toNat)
  case atStart => exact ⟨0, Nat.zero_le _, rfl, fun j hj => absurd hj (by omega), World.ownsRow_nil _ _ _ _, Below.refl _ _⟩
  case round =>
    obtain ⟨k, hk, rfl, HS, HO, HB⟩ := hrel
    rcases Nat.lt_or_ge k m with hk2 | hk2
    case inr =>
      obtain rfl : k = m := by omega
      have t4 : decide ((8 * (k : Int)) < (len : Int)) = false := decide_eq_false (by have := HM8.out; omega)
      have HF := Lib.hid (HRC.out (first_none HS.out))
      go_wp2_with fail
      go_ret3
      exact ⟨⟨_, by rw [HF.out]; rfl, by rw [HF.out, rdL_len]; exact HO.out⟩, HB.out⟩
    have t4 : decide ((8 * (k : Int)) < (len : Int)) = true := decide_eq_true (by have := HM8.out; omega)
    have hlk : 8 * k + 8 ≤ len := by have := HM8.out; omega
    obtain ⟨b, off, rfl, hb, hc⟩ := HX.out.at (by omega)
    have HC : Hid (∀ W, Below w.heap.size w W → SliceAt W (some ⟨b, off + 8 * k, none⟩) (len - 8 * k) (bV (chunk X k))) := fun W hW => .inr ⟨b, off + 8 * k, rfl, Nat.lt_of_lt_of_le hb hW.size, fun i hi => by rw [hW.cell hb, Nat.add_assoc]; exact hc (8 * k + i) (by omega)⟩
    have HRD := Lib.hid (fun W hW => read_any (some ⟨b, off + 8 * k, none⟩) (len - 8 * k) (c - 8 * k) (chunk X k) W (HC.out W hW) (fun i => HL.out _) (by omega) (by omega))
    obtain ⟨hri, hre⟩ := read_some (X := X) (k := k) (len := len - 8 * k) (by omega)
    have HRI := Lib.hid hri; have HRE := Lib.hid hre
    clear hc HC hri hre
    go_wp2_with fail
    refine (HRD.out wr HB.out).mono ?_
    rintro e w2 ⟨rfl, hb2⟩
    rw [HRI.out, HRE.out]
    have O2 := Lib.hid (own_same HO.out fun g hg => hb2.block g (HO.out.lt g hg).2)
    have B2 : Hid (Below w.heap.size w w2) := HB.out.trans (hb2.mono HB.out.size)
    clear HRD HRI HRE hb2 HO HB
    have HSU := Lib.hid (rdL_succ X k)
    cases hbd : rdBad X k with
    | true =>
      have HF := Lib.hid (HRB.out k (first_some hk2 hbd HS.out))
      rw [if_pos rfl, if_pos rfl]
      unfold Ins.val noIns
      go_wp2_with fail
      go_ret3
      exact ⟨by rw [HF.out]; exact OutI.none _ _ _ _, B2.out.alloc B2.out.size _⟩
    | false =>
      have HS' : Hid (∀ j, j < k + 1 → rdBad X j = false) := fun j hj => by rcases Nat.lt_succ_iff_lt_or_eq.1 hj with h | rfl <;> first | exact HS.out _ h | exact hbd
      rw [if_neg (by decide), if_neg (by decide)]
      generalize rdI X k = x at *
      obtain ⟨op, ia, ib, ic⟩ := x
      unfold Ins.val
      have G3 : Hid ((w2.alloc (.cells #[.int .u8 (op : Int), .int .u8 (ia : Int), .int .u16 (ib : Int), .int .u32 (ic : Int)] 32)).heap[w2.heap.size]? = some (.cells #[.int .u8 (op : Int), .int .u8 (ia : Int), .int .u16 (ib : Int), .int .u32 (ic : Int)] 32 (0, 0))) := heap_alloc_new _ _
      have O3 := Lib.hid (O2.out.alloc (.cells #[.int .u8 (op : Int), .int .u8 (ia : Int), .int .u16 (ib : Int), .int .u32 (ic : Int)] 32))
      have B3 : Hid (Below w.heap.size w (w2.alloc (.cells #[.int .u8 (op : Int), .int .u8 (ia : Int), .int .u16 (ib : Int), .int .u32 (ic : Int)] 32))) := B2.out.alloc B2.out.size _
      go_upto_region 12 with fail
      generalize w2.alloc (.cells #[.int .u8 (op : Int), .int .u8 (ia : Int), .int .u16 (ib : Int), .int .u32 (ic : Int)] 32) = w3 at *
      generalize w2.heap.size = g at *
      have c0 := cell_row (j := 0) G3.out rfl
      have c1 := cell_row (j := 1) G3.out rfl
      have c2 := cell_row (j := 2) G3.out rfl
      have c3 := cell_row (j := 3) G3.out rfl
      have HW : Hid (∀ j u, [Value.int .u8 (op : Int), .int .u8 (ia : Int), .int .u16 (ib : Int), .int .u32 (ic : Int)][j]? = some u → (w3.alloc (.cells #[.int .u8 (op : Int), .int .u8 (ia : Int), .int .u16 (ib : Int), .int .u32 (ic : Int)] 32)).cell? ((⟨w3.heap.size, 0, none⟩ : Addr).add j) = some u) := four_news _ _ _ _ _ _
      have OA := Lib.hid (O3.out.alloc (.cells #[.int .u8 (op : Int), .int .u8 (ia : Int), .int .u16 (ib : Int), .int .u32 (ic : Int)] 32))
      have HZ : Hid (w.heap.size ≤ w3.heap.size) := B3.out.size
      clear O2 B2
      go_wp2_with (at_builtin; refine wpList_append_own _ rfl _ _ 25 rfl w.heap.size 32 i0 (.agg #[.int .u8 0, .int .u8 0, .int .u16 0, .int .u32 0]) 4 8 Tryz.underlying25 HIn.out HZ0.out HZ1.out HZ2.out rfl (by decide) u5 k _ rfl OA.out ⟨w3.heap.size, 0, none⟩ 1 1 [.int .u8 (op : Int), .int .u8 (ia : Int), .int .u16 (ib : Int), .int .u32 (ic : Int)] rfl rfl HW.out (fun u hu => by simp at hu; rcases hu with rfl | rfl | rfl | rfl <;> rfl) (by unfold maxLen; omega) (by omega) (by simp; have := HZ.out; omega) ?_)
      intro v6 w6 ho6 hg6 _
      have B6 : Hid (Below w.heap.size w w6) := (B3.out.alloc B3.out.size _).grown hg6 (by simp; have := HZ.out; omega) (fun j hj => (O3.out.lt j hj).1)
      have O6 : Hid (w6.ownsRow w.heap.size 32 4 v6 (k + 1) (insVs (rdL X (k + 1)))) := by
        show World.ownsRow _ _ _ _ _ _ _
        rw [HSU.out, ← insVs_snoc]; exact ho6
      clear ho6 hg6 OA HW
      go_wp2_with fail
      refine ⟨⟨k + 1, by omega, by first | rfl | go_num, HS', O6, B6⟩, ?_⟩
      simp [intOf]; omega
set_option maxRecDepth 100000 in
set_option maxHeartbeats 4000000 in
theorem raread_any (a : Option Addr) (len c : Nat) (X : Nat → Nat) (w : World) (hX : SliceAt w a len (bV X)) (hl : ∀ i, X i < 256) (hm : len ≤ 9223372036854775807) (hcap : len ≤ c) (hcm : c ≤ 9223372036854775807) :
    Calls Tryz.prog 21 #[.slice a len c] w fun e w' => OutI w.heap.size w' (rdS len X) e ∧ Below w.heap.size w w' := by
  by_cases hbig : 131072 < len
  · have t1 : decide ((131072 : Int) < (len : Int)) = true := decide_eq_true (by omega)
    have HR : rdS len X = ([], 0, 3) := by unfold rdS; rw [if_pos hbig]
    rw [HR]
    clear hX
    go_enter Tryz.func21, Tryz.ntmps21
    go_wp2_with fail
    go_ret3
    exact ⟨OutI.none _ _ _ _, Below.refl _ _⟩
  have t1 : decide ((131072 : Int) < (len : Int)) = false := decide_eq_false (by omega)
  by_cases h8 : len % 8 ≠ 0
  · have t2 : (((len : Int) % 8) != 0) = true := bne_iff_ne.2 (by omega)
    have t3 : decide ((0 : Int) < ((len : Int) % 8)) = true := decide_eq_true (by omega)
    have HR : rdS len X = ([], 0, 40) := by unfold rdS; rw [if_neg hbig, if_pos h8]
    rw [HR]
    clear hX
    go_enter Tryz.func21, Tryz.ntmps21
    go_wp2_with fail
    go_ret3
    exact ⟨OutI.none _ _ _ _, Below.refl _ _⟩
  have t2 : (((len : Int) % 8) != 0) = false := by
    have : ((len : Int) % 8) = 0 := by omega
    rw [this]; rfl
  have t3 : decide ((0 : Int) < ((len : Int) % 8)) = false := decide_eq_false (by omega)
  obtain ⟨m, hm8⟩ : ∃ m, len = 8 * m := ⟨len / 8, by omega⟩
  have hm1 : len / 8 = m := by omega
  have HRB : Hid (∀ k, first (rdBad X) m = some k → rdS len X = ([], k, 90)) := fun k h => by unfold rdS; rw [if_neg hbig, if_neg h8, hm1, h]
  have HRC : Hid (first (rdBad X) m = none → rdS len X = (rdL X m, 0, 0)) := fun h => by unfold rdS; rw [if_neg hbig, if_neg h8, hm1, h]
  have hmb : m ≤ 16384 := by omega
  have HX := Lib.hid hX
  have HL := Lib.hid hl
  clear hX hl h8 hbig hm1
  obtain ⟨i0, hi, hz0, hz1, hz2⟩ := info_parts (show (Tryz.prog.info? 32).map (fun i => (i.zero, i.size, i.bytes)) = some (some (.agg #[.int .u8 0, .int .u8 0, .int .u16 0, .int .u32 0]), 4, 8) by kernel_rfl)
  have HIn := Lib.hid hi; have HZ0 := Lib.hid hz0; have HZ1 := Lib.hid hz1; have HZ2 := Lib.hid hz2
  clear hi hz0 hz1 hz2
  generalize rdS len X = rs at *
  have HM8 := Lib.hid hm8
  have hlen1 : 8 * m ≤ len := by omega
  have hlen2 : len ≤ 8 * m := by omega
  clear hm8
  go_enter Tryz.func21, Tryz.ntmps21
  go_wp2_with fail
  clear t2 t3
  go_loopw [5, 6] (fun v i wr => ∃ k : Nat, k ≤ m ∧ i = .int .i64 (k : Int) ∧ Hid (∀ j, j < k → rdBad X j = false) ∧ Hid (wr.ownsRow w.heap.size 32 4 v k (insVs (rdL X k))) ∧ Hid (Below w.heap.size w wr)) (fun _ i _ => m - (intOf i).toNat)
  case atStart => exact ⟨0, Nat.zero_le _, rfl, fun j hj => absurd hj (by omega), World.ownsRow_nil _ _ _ _, Below.refl _ _⟩
  case round =>
    obtain ⟨k, hk, rfl, HS, HO, HB⟩ := hrel
    rcases Nat.lt_or_ge k m with hk2 | hk2
    case inr =>
      obtain rfl : k = m := by omega
      have t4 : decide ((k : Int) < (len : Int) / 8) = false := decide_eq_false (by have := HM8.out; omega)
      have HF := Lib.hid (HRC.out (first_none HS.out))
      go_wp2_with fail
      go_ret3
      exact ⟨⟨_, by rw [HF.out]; rfl, by rw [HF.out, rdL_len]; exact HO.out⟩, HB.out⟩
    have t4 : decide ((k : Int) < (len : Int) / 8) = true := decide_eq_true (by have := HM8.out; omega)
    have hlk : 8 * k + 8 ≤ len := by have := HM8.out; omega
    obtain ⟨b, off, rfl, hb, hc⟩ := HX.out.at (by omega)
    have HC : Hid (∀ W, Below w.heap.size w W → SliceAt W (some ⟨b, off + 8 * k, none⟩) (len - 8 * k) (bV (chunk X k))) := fun W hW => .inr ⟨b, off + 8 * k, rfl, Nat.lt_of_lt_of_le hb hW.size, fun i hi => by rw [hW.cell hb, Nat.add_assoc]; exact hc (8 * k + i) (by omega)⟩
    have HRD := Lib.hid (fun W hW => rread_any (some ⟨b, off + 8 * k, none⟩) (len - 8 * k) (c - 8 * k) (chunk X k) W (HC.out W hW) (fun i => HL.out _) (by omega) (by omega))
    obtain ⟨hri, hre⟩ := read_some (X := X) (k := k) (len := len - 8 * k) (by omega)
    have HRI := Lib.hid hri; have HRE := Lib.hid hre
    clear hc HC hri hre
    go_wp2_with fail
    refine (HRD.out wr HB.out).mono ?_
    rintro e w2 ⟨rfl, hb2⟩
    rw [HRI.out, HRE.out]
    have O2 := Lib.hid (own_same HO.out fun g hg => hb2.block g (HO.out.lt g hg).2)
    have B2 : Hid (Below w.heap.size w w2) := HB.out.trans (hb2.mono HB.out.size)
    clear HRD HRI HRE hb2 HO HB
    have HSU := Lib.hid (rdL_succ X k)
    cases hbd : rdBad X k with
    | true =>
      have HF := Lib.hid (HRB.out k (first_some hk2 hbd HS.out))
      rw [if_pos rfl, if_pos rfl]
      unfold Ins.val noIns
      go_wp2_with fail
      go_ret3
      exact ⟨by rw [HF.out]; exact OutI.none _ _ _ _, B2.out.alloc B2.out.size _⟩
    | false =>
      have HS' : Hid (∀ j, j < k + 1 → rdBad X j = false) := fun j hj => by rcases Nat.lt_succ_iff_lt_or_eq.1 hj with h | rfl <;> first | exact HS.out _ h | exact hbd
      rw [if_neg (by decide), if_neg (by decide)]
      generalize rdI X k = x at *
      obtain ⟨op, ia, ib, ic⟩ := x
      unfold Ins.val
      have G3 : Hid ((w2.alloc (.cells #[.int .u8 (op : Int), .int .u8 (ia : Int), .int .u16 (ib : Int), .int .u32 (ic : Int)] 32)).heap[w2.heap.size]? = some (.cells #[.int .u8 (op : Int), .int .u8 (ia : Int), .int .u16 (ib : Int), .int .u32 (ic : Int)] 32 (0, 0))) := heap_alloc_new _ _
      have O3 := Lib.hid (O2.out.alloc (.cells #[.int .u8 (op : Int), .int .u8 (ia : Int), .int .u16 (ib : Int), .int .u32 (ic : Int)] 32))
      have B3 : Hid (Below w.heap.size w (w2.alloc (.cells #[.int .u8 (op : Int), .int .u8 (ia : Int), .int .u16 (ib : Int), .int .u32 (ic : Int)] 32))) := B2.out.alloc B2.out.size _
      go_upto_region 12 with fail
      generalize w2.alloc (.cells #[.int .u8 (op : Int), .int .u8 (ia : Int), .int .u16 (ib : Int), .int .u32 (ic : Int)] 32) = w3 at *
      generalize w2.heap.size = g at *
      have c0 := cell_row (j := 0) G3.out rfl
      have c1 := cell_row (j := 1) G3.out rfl
      have c2 := cell_row (j := 2) G3.out rfl
      have c3 := cell_row (j := 3) G3.out rfl
      have HW : Hid (∀ j u, [Value.int .u8 (op : Int), .int .u8 (ia : Int), .int .u16 (ib : Int), .int .u32 (ic : Int)][j]? = some u → (w3.alloc (.cells #[.int .u8 (op : Int), .int .u8 (ia : Int), .int .u16 (ib : Int), .int .u32 (ic : Int)] 32)).cell? ((⟨w3.heap.size, 0, none⟩ : Addr).add j) = some u) := four_news _ _ _ _ _ _
      have OA := Lib.hid (O3.out.alloc (.cells #[.int .u8 (op : Int), .int .u8 (ia : Int), .int .u16 (ib : Int), .int .u32 (ic : Int)] 32))
      have HZ : Hid (w.heap.size ≤ w3.heap.size) := B3.out.size
      clear O2 B2
      go_wp2_with (at_builtin; refine wpList_append_own _ rfl _ _ 25 rfl w.heap.size 32 i0 (.agg #[.int .u8 0, .int .u8 0, .int .u16 0, .int .u32 0]) 4 8 Tryz.underlying25 HIn.out HZ0.out HZ1.out HZ2.out rfl (by decide) u5 k _ rfl OA.out ⟨w3.heap.size, 0, none⟩ 1 1 [.int .u8 (op : Int), .int .u8 (ia : Int), .int .u16 (ib : Int), .int .u32 (ic : Int)] rfl rfl HW.out (fun u hu => by simp at hu; rcases hu with rfl | rfl | rfl | rfl <;> rfl) (by unfold maxLen; omega) (by omega) (by simp; have := HZ.out; omega) ?_)
      intro v6 w6 ho6 hg6 _
      have B6 : Hid (Below w.heap.size w w6) := (B3.out.alloc B3.out.size _).grown hg6 (by simp; have := HZ.out; omega) (fun j hj => (O3.out.lt j hj).1)
      have O6 : Hid (w6.ownsRow w.heap.size 32 4 v6 (k + 1) (insVs (rdL X (k + 1)))) := by
        show World.ownsRow _ _ _ _ _ _ _
        rw [HSU.out, ← insVs_snoc]; exact ho6
      clear ho6 hg6 OA HW
      go_wp2_with fail
      refine ⟨⟨k + 1, by omega, by go_num, HS', O6, B6⟩, ?_⟩
      simp [intOf]; omega
/-! ### Bytes -/
def bysK (ls : List Ins) (k : Nat) : List Value := (List.range k).flatMap fun i => (ls.getD i noIns).bytL
theorem bysK_succ (ls : List Ins) (k : Nat) : bysK ls (k + 1) = bysK ls k ++ (ls.getD k noIns).bytL := by unfold bysK; rw [List.range_succ, List.flatMap_append]; simp
structure OutB (base : Nat) (w' : World) (ls : List Ins) (e : Ending) : Prop where
  at_ : ∃ v, e = .returned v ∧ w'.ownsRow base 5 1 v (8 * ls.length) (bysK ls ls.length)
theorem bytL_eight (i : Ins) : i.bytL = [bV i.byt 0, bV i.byt 1, bV i.byt 2, bV i.byt 3, bV i.byt 4, bV i.byt 5, bV i.byt 6, bV i.byt 7] := rfl
theorem eight_news {w : World} {g : Nat} {l : List Value} {t : TypeId} (h : w.heap[g]? = some (.cells l.toArray t (0, 0))) : ∀ j u, l[j]? = some u → w.cell? ((⟨g, 0, none⟩ : Addr).add j) = some u := by
  intro j u hj
  rw [Go.WideShapes.add_plain, Nat.zero_add]
  exact cell_row h (by simpa using hj)
set_option maxRecDepth 100000 in
set_option maxHeartbeats 4000000 in
theorem rabytes_any (ls : List Ins) (a : Option Addr) (c : Nat) (w : World) (hA : InsAt w a ls) (hok : ∀ i, i < ls.length → (ls.getD i noIns).ok) (hm : ls.length ≤ 1000000) :
    Calls Tryz.prog 23 #[.slice a ls.length c] w fun e w' => OutB w.heap.size w' ls e ∧ Below w.heap.size w w' := by
  have HA := Lib.hid hA; have HOKS := Lib.hid hok
  clear hA hok
  have HR : Hid (∀ v w', w'.ownsRow w.heap.size 5 1 v (8 * ls.length) (bysK ls ls.length) → OutB w.heap.size w' ls (.returned v)) := fun v w' h => ⟨v, rfl, h⟩
  generalize hn : ls.length = n at *
  obtain ⟨i0, hi, hz0, hz1, hz2⟩ := info_parts infoU8
  have HIn := Lib.hid hi; have HZ0 := Lib.hid hz0; have HZ1 := Lib.hid hz1; have HZ2 := Lib.hid hz2
  clear hi hz0 hz1 hz2
  go_enter Tryz.func23, Tryz.ntmps23
  go_wp2_with fail
  go_loopw [3, 4] (fun v i wr => ∃ k : Nat, k ≤ n ∧ i = .int .i64 (k : Int) ∧ Hid (wr.ownsRow w.heap.size 5 1 v (8 * k) (bysK ls k)) ∧ Hid (Below w.heap.size w wr)) (fun _ i _ => n - (intOf i).toNat)
  case atStart => exact ⟨0, Nat.zero_le _, rfl, World.ownsRow_nil _ _ _ _, Below.refl _ _⟩
  case round =>
    obtain ⟨k, hk, rfl, HO, HB⟩ := hrel
    rcases Nat.lt_or_ge k n with hk2 | hk2
    case inr =>
      obtain rfl : k = n := by omega
      have t2 : decide ((k : Int) < (k : Int)) = false := by simp
      go_wp2_with fail
      go_ret
      exact ⟨HR.out _ _ HO.out, HB.out⟩
    have t2 : decide ((k : Int) < (n : Int)) = true := decide_eq_true (by omega)
    obtain ⟨b, off, rfl, hb, hc⟩ := HA.out.at (by omega)
    have a0 : wr.cell? ⟨b, off + k * 4, none⟩ = some (.int .u8 ((ls.getD k noIns).op : Int)) := (HB.out.cell hb).trans (hc k (by omega) 0 (by omega))
    have a1 : wr.cell? ⟨b, off + k * 4 + 1, none⟩ = some (.int .u8 ((ls.getD k noIns).a : Int)) := (HB.out.cell hb).trans (hc k (by omega) 1 (by omega))
    have a2 : wr.cell? ⟨b, off + k * 4 + 2, none⟩ = some (.int .u16 ((ls.getD k noIns).b : Int)) := (HB.out.cell hb).trans (hc k (by omega) 2 (by omega))
    have a3 : wr.cell? ⟨b, off + k * 4 + 3, none⟩ = some (.int .u32 ((ls.getD k noIns).c : Int)) := (HB.out.cell hb).trans (hc k (by omega) 3 (by omega))
    have HO2 := Lib.hid (HOKS.out k (by omega))
    have HSU := Lib.hid (bysK_succ ls k)
    clear hc
    generalize ls.getD k noIns = x at *
    have HBY := Lib.hid (fun W => rbytes_any x W HO2.out)
    unfold Ins.val at HBY
    go_wp2_with fail
    refine (HBY.out wr).mono ?_
    rintro e w2 ⟨⟨g, rfl, hg⟩, hb2⟩
    have O2 := Lib.hid (own_same HO.out fun g hg => hb2.block g (HO.out.lt g hg).2)
    have B2 : Hid (Below w.heap.size w w2) := HB.out.trans (hb2.mono HB.out.size)
    have HN := Lib.hid (eight_news hg)
    clear hb2 HO HB HBY hg a0 a1 a2 a3
    -- the eight bytes at g are appended
    have HZ : Hid (w.heap.size ≤ w2.heap.size) := B2.out.size
    go_wp2_with (at_builtin; refine wpList_append_own _ rfl _ _ 42 rfl w.heap.size 5 i0 (.int .u8 0) 1 1 Tryz.underlying42 HIn.out HZ0.out HZ1.out HZ2.out rfl (by decide) u3 (8 * k) _ rfl O2.out ⟨g, 0, none⟩ 8 8 x.bytL rfl rfl HN.out x.bytL_one (by unfold maxLen; omega) (by omega) HZ.out ?_)
    intro v6 w6 ho6 hg6 _
    have B6 : Hid (Below w.heap.size w w6) := B2.out.grown hg6 HZ.out (fun j hj => (O2.out.lt j hj).1)
    have O6 : Hid (w6.ownsRow w.heap.size 5 1 v6 (8 * (k + 1)) (bysK ls (k + 1))) := by
      show World.ownsRow _ _ _ _ _ _ _
      rw [HSU.out, Nat.mul_succ]; exact ho6
    clear ho6 hg6
    go_wp2_with fail
    refine ⟨⟨k + 1, by omega, by go_num, O6, B6⟩, ?_⟩
    simp [intOf]; omega
set_option maxRecDepth 100000 in
set_option maxHeartbeats 4000000 in
theorem abytes_any (ls : List Ins) (a : Option Addr) (c : Nat) (w : World) (hA : InsAt w a ls) (hok : ∀ i, i < ls.length → (ls.getD i noIns).ok) (hm : ls.length ≤ 1000000) :
    Calls Tryz.prog 22 #[.slice a ls.length c] w fun e w' => OutB w.heap.size w' ls e ∧ Below w.heap.size w w' := by
  have HA := Lib.hid hA; have HOKS := Lib.hid hok
  clear hA hok
  have HR : Hid (∀ v w', w'.ownsRow w.heap.size 5 1 v (8 * ls.length) (bysK ls ls.length) → OutB w.heap.size w' ls (.returned v)) := fun v w' h => ⟨v, rfl, h⟩
  generalize hn : ls.length = n at *
  obtain ⟨i0, hi, hz0, hz1, hz2⟩ := info_parts infoU8
  have HIn := Lib.hid hi; have HZ0 := Lib.hid hz0; have HZ1 := Lib.hid hz1; have HZ2 := Lib.hid hz2
  clear hi hz0 hz1 hz2
  go_enter Tryz.func22, Tryz.ntmps22
  go_wp2_with (at_make; refine wpList_make_own _ rfl _ _ 42 rfl w.heap.size 5 i0 (.int .u8 0) 1 Tryz.underlying42 HIn.out HZ0.out HZ1.out .i64 .i64 _ (8 * n) rfl rfl (by omega) (by rw [HZ2.out]; omega) (by unfold maxLen; omega) (Nat.le_refl _) ?_)
  intro w0 hown0 hgrow0
  have O0 : Hid (w0.ownsRow w.heap.size 5 1 (.slice (some ⟨w.heap.size, 0, none⟩) 0 (8 * n)) (8 * 0) (bysK ls 0)) := hown0
  have B0 : Hid (Below w.heap.size w w0) := (Below.refl _ w).grown hgrow0 (Nat.le_refl _) (fun j hj => by cases hj)
  clear hown0 hgrow0
  go_wp2_with fail
  go_loopw [3, 13] (fun v i wr => ∃ k : Nat, k ≤ n ∧ i = .int .i64 (k : Int) ∧ Hid (wr.ownsRow w.heap.size 5 1 v (8 * k) (bysK ls k)) ∧ Hid (Below w.heap.size w wr)) (fun _ i _ => n - (intOf i).toNat)
  case atStart => exact ⟨0, Nat.zero_le _, rfl, O0, B0⟩
  case round =>
    clear O0 B0
    obtain ⟨k, hk, rfl, HO, HB⟩ := hrel
    rcases Nat.lt_or_ge k n with hk2 | hk2
    case inr =>
      obtain rfl : k = n := by omega
      have t2 : decide ((k : Int) < (k : Int)) = false := by simp
      go_wp2_with fail
      go_ret
      exact ⟨HR.out _ _ HO.out, HB.out⟩
    have t2 : decide ((k : Int) < (n : Int)) = true := decide_eq_true (by omega)
    obtain ⟨b, off, rfl, hb, hc⟩ := HA.out.at (by omega)
    have a0 : wr.cell? ⟨b, off + k * 4, none⟩ = some (.int .u8 ((ls.getD k noIns).op : Int)) := (HB.out.cell hb).trans (hc k (by omega) 0 (by omega))
    have a1 : wr.cell? ⟨b, off + k * 4 + 1, none⟩ = some (.int .u8 ((ls.getD k noIns).a : Int)) := (HB.out.cell hb).trans (hc k (by omega) 1 (by omega))
    have a2 : wr.cell? ⟨b, off + k * 4 + 2, none⟩ = some (.int .u16 ((ls.getD k noIns).b : Int)) := (HB.out.cell hb).trans (hc k (by omega) 2 (by omega))
    have a3 : wr.cell? ⟨b, off + k * 4 + 3, none⟩ = some (.int .u32 ((ls.getD k noIns).c : Int)) := (HB.out.cell hb).trans (hc k (by omega) 3 (by omega))
    have HO2 := Lib.hid (HOKS.out k (by omega))
    have HSU := Lib.hid (bysK_succ ls k)
    clear hc
    generalize ls.getD k noIns = x at *
    have HBY := Lib.hid (fun W => bytes_any x W HO2.out)
    unfold Ins.val at HBY
    have G1 : Hid ((wr.alloc (.cells #[.int .u8 (x.op : Int), .int .u8 (x.a : Int), .int .u16 (x.b : Int), .int .u32 (x.c : Int)] 32)).heap[wr.heap.size]? = some (.cells #[.int .u8 (x.op : Int), .int .u8 (x.a : Int), .int .u16 (x.b : Int), .int .u32 (x.c : Int)] 32 (0, 0))) := heap_alloc_new _ _
    have O1 := Lib.hid (HO.out.alloc (.cells #[.int .u8 (x.op : Int), .int .u8 (x.a : Int), .int .u16 (x.b : Int), .int .u32 (x.c : Int)] 32))
    have B1 : Hid (Below w.heap.size w (wr.alloc (.cells #[.int .u8 (x.op : Int), .int .u8 (x.a : Int), .int .u16 (x.b : Int), .int .u32 (x.c : Int)] 32))) := HB.out.alloc HB.out.size _
    go_upto_region 5 with fail
    generalize wr.alloc (.cells #[.int .u8 (x.op : Int), .int .u8 (x.a : Int), .int .u16 (x.b : Int), .int .u32 (x.c : Int)] 32) = w1 at *
    generalize wr.heap.size = g at *
    have c0 := cell_row (j := 0) G1.out rfl
    have c1 := cell_row (j := 1) G1.out rfl
    have c2 := cell_row (j := 2) G1.out rfl
    have c3 := cell_row (j := 3) G1.out rfl
    clear HO HB a0 a1 a2 a3
    go_wp2_with fail
    refine (HBY.out w1).mono ?_
    rintro e w2 ⟨rfl, hb2⟩
    have O2 := Lib.hid (own_same O1.out fun g hg => hb2.block g (O1.out.lt g hg).2)
    have B2 : Hid (Below w.heap.size w w2) := B1.out.trans (hb2.mono B1.out.size)
    clear hb2 O1 B1 HBY G1 c0 c1 c2 c3
    have G3 : Hid ((w2.alloc (.cells x.bytL.toArray 76)).heap[w2.heap.size]? = some (.cells x.bytL.toArray 76 (0, 0))) := heap_alloc_new _ _
    have O3 := Lib.hid (O2.out.alloc (.cells x.bytL.toArray 76))
    have B3 : Hid (Below w.heap.size w (w2.alloc (.cells x.bytL.toArray 76))) := B2.out.alloc B2.out.size _
    have hbl : x.bytL.toArray = #[bV x.byt 0, bV x.byt 1, bV x.byt 2, bV x.byt 3, bV x.byt 4, bV x.byt 5, bV x.byt 6, bV x.byt 7] := rfl
    rw [hbl] at G3 O3 B3 ⊢
    clear hbl
    have HN := Lib.hid (eight_news (l := x.bytL) G3.out)
    unfold bV at G3 O3 B3 HN ⊢
    go_upto_region 6 with fail
    generalize w2.alloc (.cells #[.int .u8 ((x.byt 0 : Nat) : Int), .int .u8 ((x.byt 1 : Nat) : Int), .int .u8 ((x.byt 2 : Nat) : Int), .int .u8 ((x.byt 3 : Nat) : Int), .int .u8 ((x.byt 4 : Nat) : Int), .int .u8 ((x.byt 5 : Nat) : Int), .int .u8 ((x.byt 6 : Nat) : Int), .int .u8 ((x.byt 7 : Nat) : Int)] 76) = w3 at *
    generalize w2.heap.size = g6 at *
    clear O2 B2 G3
    -- the eight bytes at g6 are appended
    have HZ : Hid (w.heap.size ≤ w3.heap.size) := B3.out.size
    go_wp2_with (at_builtin; refine wpList_append_own _ rfl _ _ 42 rfl w.heap.size 5 i0 (.int .u8 0) 1 1 Tryz.underlying42 HIn.out HZ0.out HZ1.out HZ2.out rfl (by decide) u3 (8 * k) _ rfl O3.out ⟨g6, 0, none⟩ 8 8 x.bytL rfl rfl HN.out x.bytL_one (by unfold maxLen; omega) (by omega) HZ.out ?_)
    intro v6 w6 ho6 hg6 _
    have B6 : Hid (Below w.heap.size w w6) := B3.out.grown hg6 HZ.out (fun j hj => (O3.out.lt j hj).1)
    have O6 : Hid (w6.ownsRow w.heap.size 5 1 v6 (8 * (k + 1)) (bysK ls (k + 1))) := by
      show World.ownsRow _ _ _ _ _ _ _
      rw [HSU.out, Nat.mul_succ]; exact ho6
    clear ho6 hg6
    go_wp2_with fail
    refine ⟨⟨k + 1, by omega, by go_num, O6, B6⟩, ?_⟩
    simp [intOf]; omega
end Go.Proofs.YtalmgjeiopjhlaaGreatDoor
