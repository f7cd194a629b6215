/- Assemble. -/
import Derived.Test.YtalmgjeiopjhlaaGreatDoorAsmM
import Derived.Deep.OwnRows
namespace Go.Proofs.YtalmgjeiopjhlaaGreatDoor
open Go.Shelf Go.RowKit Go.WideMaps Go.Maps
set_option linter.unusedVariables false
set_option linter.unusedSimpArgs false
def badL (ls : List AL) (i : Nat) : Bool := (!(ls.getD i al0).lab.toList.isEmpty && !(findO ls (ls.getD i al0).lab == some i)) || (!(ls.getD i al0).tgt.toList.isEmpty && !(findO ls (ls.getD i al0).tgt).isSome)
def insT (ls : List AL) (i : Nat) : Ins := if (ls.getD i al0).tgt.toList.isEmpty then (ls.getD i al0).i else ⟨(ls.getD i al0).i.op, (ls.getD i al0).i.a, (ls.getD i al0).i.b, (findO ls (ls.getD i al0).tgt).getD 0⟩
def mayL (ls : List AL) (i : Nat) : Bool := !(ls.getD i al0).may
def asmS (ls : List AL) : List Ins × Nat × Nat :=
  if 16384 < ls.length then ([], 0, 3) else
  match first (mayL ls) ls.length with
  | some i => ([], i, 2)
  | none => match first (badL ls) ls.length with
    | some i => ([], i, 101)
    | none => ((List.range ls.length).map (insT ls), 0, 0)
structure OutI (base : Nat) (w' : World) (r : List Ins × Nat × Nat) (e : Ending) : Prop where
  at_ : ∃ v, e = .returned (.tuple #[v, .int .i64 ((r.2.1 : Nat) : Int), .int .i64 ((r.2.2 : Nat) : Int)]) ∧ w'.ownsRow base 32 4 v r.1.length (insVs r.1)
theorem OutI.none (base : Nat) (w' : World) (k e : Nat) : OutI base w' ([], k, e) (.returned (.tuple #[.slice none 0 0, .int .i64 (k : Int), .int .i64 (e : Int)])) := ⟨_, rfl, World.ownsRow_nil _ _ _ _⟩
theorem OutI.low {b b' : Nat} {w' : World} {r : List Ins × Nat × Nat} {e : Ending} (h : OutI b w' r e) (hb : b' ≤ b) : OutI b' w' r e := by
  obtain ⟨v, h1, h2, h3⟩ := h
  refine ⟨v, h1, h2, ?_⟩
  rcases h3 with h | ⟨g, cap, cur, hv, hg, h⟩
  · exact .inl h
  · exact .inr ⟨g, cap, cur, hv, Nat.le_trans hb hg, h⟩
theorem own_same {w w' : World} {B : Nat} {e : TypeId} {size : Nat} {v : Value} {n : Nat} {xs : List Value} (h : w.ownsRow B e size v n xs) (hs : ∀ g, v.ownBlock = some g → w'.heap[g]? = w.heap[g]?) : w'.ownsRow B e size v n xs := by
  refine ⟨h.1, ?_⟩
  rcases h.2 with h0 | ⟨g, cap, cur, rfl, h1, h2, h3⟩
  · exact .inl h0
  · exact .inr ⟨g, cap, cur, rfl, h1, (hs g rfl).trans h2, h3⟩
theorem four_news (w : World) (x y z u : Value) (t : TypeId) : ∀ j v, [x, y, z, u][j]? = some v → (w.alloc (.cells #[x, y, z, u] t)).cell? ((⟨w.heap.size, 0, none⟩ : Addr).add j) = some v := by
  intro j v hj
  rw [Go.WideShapes.add_plain, Nat.zero_add]
  match j, hj with
  | 0, hj => exact cell_row (heap_alloc_new _ _) hj
  | 1, hj => exact cell_row (heap_alloc_new _ _) hj
  | 2, hj => exact cell_row (heap_alloc_new _ _) hj
  | 3, hj => exact cell_row (heap_alloc_new _ _) hj
  | n + 4, hj => simp at hj
theorem insVs_snoc (l : List Ins) (i : Ins) : insVs l ++ [.int .u8 (i.op : Int), .int .u8 (i.a : Int), .int .u16 (i.b : Int), .int .u32 (i.c : Int)] = insVs (l ++ [i]) := by simp [insVs, insC]
theorem insVs_snoc' {l l' : List Ins} {i : Ins} (h : l' = l ++ [i]) : insVs l ++ [.int .u8 (i.op : Int), .int .u8 (i.a : Int), .int .u16 (i.b : Int), .int .u32 (i.c : Int)] = insVs l' := by rw [h, insVs_snoc]
def insL (ls : List AL) (k : Nat) : List Ins := (List.range k).map (insT ls)
theorem insL_succ (ls : List AL) (k : Nat) : insL ls (k + 1) = insL ls k ++ [insT ls k] := by unfold insL; rw [List.range_succ, List.map_append]; rfl
theorem insL_len (ls : List AL) (k : Nat) : (insL ls k).length = k := by simp [insL]
theorem find_self {ls : List AL} {k : Nat} (hk : k < ls.length) : ∃ m, findO ls (ls.getD k al0).lab = some m := by
  cases h : findO ls (ls.getD k al0).lab with
  | some m => exact ⟨m, rfl⟩
  | none =>
    exfalso
    unfold findO first at h
    have := List.find?_eq_none.1 h k (List.mem_range.2 hk)
    apply this
    unfold hitL; rw [str_eq]; exact decide_eq_true rfl
set_option maxRecDepth 100000 in
set_option maxHeartbeats 4000000 in
theorem asm_any (ls : List AL) (a : Option Addr) (c : Nat) (w : World) (hA : AlsAt w a ls) (hok : ∀ i, i < ls.length → (ls.getD i al0).ok) (hm : ls.length ≤ 9223372036854775807) :
    Calls Tryz.prog 10 #[.slice a ls.length c] w fun e w' => OutI w.heap.size w' (asmS ls) e ∧ Below w.heap.size w w' := by
  by_cases hbig : 16384 < ls.length
  · have t1 : decide ((16384 : Int) < (ls.length : Int)) = true := decide_eq_true (by omega)
    have HR : asmS ls = ([], 0, 3) := by unfold asmS; rw [if_pos hbig]
    rw [HR]
    go_enter Tryz.func10, Tryz.ntmps10
    go_wp2_with fail
    go_ret3
    exact ⟨OutI.none _ _ _ _, Below.refl _ _⟩
  have t1 : decide ((16384 : Int) < (ls.length : Int)) = false := decide_eq_false (by omega)
  have HA := Lib.hid hA; have HOKS := Lib.hid hok
  have HRA : Hid (∀ i, first (mayL ls) ls.length = some i → asmS ls = ([], i, 2)) := fun i h => by unfold asmS; rw [if_neg hbig, h]
  have HRB : Hid (∀ i, first (mayL ls) ls.length = none → first (badL ls) ls.length = some i → asmS ls = ([], i, 101)) := fun i h h2 => by unfold asmS; rw [if_neg hbig, h]; simp only [h2]
  have HRC : Hid (first (mayL ls) ls.length = none → first (badL ls) ls.length = none → asmS ls = (insL ls ls.length, 0, 0)) := fun h h2 => by unfold asmS; rw [if_neg hbig, h]; simp only [h2]; rfl
  clear hA hok
  generalize hn : ls.length = n at *
  obtain ⟨i0, hi, hz0, hz1, hz2⟩ := info_parts (show (Tryz.prog.info? 32).map (fun i => (i.zero, i.size, i.bytes)) = some (some (.agg #[.int .u8 0, .int .u8 0, .int .u16 0, .int .u32 0]), 4, 8) by kernel_rfl)
  have HIn := Lib.hid hi; have HZ0 := Lib.hid hz0; have HZ1 := Lib.hid hz1; have HZ2 := Lib.hid hz2
  clear hi hz0 hz1 hz2
  have hmm := @run_makeMap Tryz.prog
  have HM0 : Hid (LMap (w.alloc (.map #[] 0)) w.heap.size ls 0) := LMap.made w ls
  have BM : Hid (Below w.heap.size w (w.alloc (.map #[] 0))) := alloc_below _ _
  go_enter Tryz.func10, Tryz.ntmps10
  go_upto_region 4 with fail
  generalize w.alloc (.map #[] 0) = wm at *
  go_wp2_with fail
  go_loopw [21] (fun i wr => ∃ k : Nat, k ≤ n ∧ i = .int .i64 (k : Int) ∧ Hid (∀ j, j < k → mayL ls j = false) ∧ Hid (LMap wr w.heap.size ls k) ∧ Hid (Below w.heap.size w wr)) (fun i _ => n - (intOf i).toNat)
  case atStart => exact ⟨0, Nat.zero_le _, rfl, fun j hj => absurd hj (by omega), HM0, BM⟩
  case round =>
    obtain ⟨k, hk, rfl, HS, HM, BB⟩ := hrel
    rcases Nat.lt_or_ge k n with hk2 | hk2
    case inr =>
      obtain rfl : k = n := by omega
      have t2 : decide ((k : Int) < (k : Int)) = false := by simp
      have HN := Lib.hid (first_none HS.out)
      have SB : Hid (w.heap.size + 1 ≤ wr.heap.size) := HM.out.lt
      clear HS HRA
      go_wp2_with fail
      go_loopw [10, 51] (fun v i wr => ∃ q : Nat, q ≤ k ∧ i = .int .i64 (q : Int) ∧ Hid (∀ j, j < q → badL ls j = false) ∧ Hid (LMap wr w.heap.size ls k) ∧ Hid (wr.ownsRow (w.heap.size + 1) 32 4 v q (insVs (insL ls q))) ∧ Hid (Below w.heap.size w wr) ∧ Hid (w.heap.size + 1 ≤ wr.heap.size)) (fun _ i _ => k - (intOf i).toNat)
      case atStart => exact ⟨0, Nat.zero_le _, rfl, fun j hj => absurd hj (by omega), HM, World.ownsRow_nil _ _ _ _, BB, SB⟩
      case round =>
        clear HM BB SB
        obtain ⟨q, hq, rfl, HS, HM, HO, BB, SB⟩ := hrel
        rcases Nat.lt_or_ge q k with hq2 | hq2
        case inr =>
          obtain rfl : q = k := by omega
          have t3 : decide ((q : Int) < (q : Int)) = false := by simp
          have HF := Lib.hid (HRC.out HN.out (first_none HS.out))
          go_wp2_with fail
          go_ret3
          refine ⟨?_, BB.out⟩
          rw [HF.out]
          exact OutI.low (b := w.heap.size + 1) ⟨_, rfl, by rw [insL_len]; exact HO.out⟩ (by omega)
        have t3 : decide ((q : Int) < (k : Int)) = true := decide_eq_true (by omega)
        obtain ⟨b, off, rfl, hb, hc⟩ := HA.out.at (by omega)
        have a0 : wr.cell? ⟨b, off + q * 6, none⟩ = some (.string (ls.getD q al0).lab) := (BB.out.cell hb).trans (hc q (by omega) 0 (by omega))
        have a1 : wr.cell? ⟨b, off + q * 6 + 1, none⟩ = some (.int .u8 ((ls.getD q al0).i.op : Int)) := (BB.out.cell hb).trans (hc q (by omega) 1 (by omega))
        have a2 : wr.cell? ⟨b, off + q * 6 + 2, none⟩ = some (.int .u8 ((ls.getD q al0).i.a : Int)) := (BB.out.cell hb).trans (hc q (by omega) 2 (by omega))
        have a3 : wr.cell? ⟨b, off + q * 6 + 3, none⟩ = some (.int .u16 ((ls.getD q al0).i.b : Int)) := (BB.out.cell hb).trans (hc q (by omega) 3 (by omega))
        have a4 : wr.cell? ⟨b, off + q * 6 + 4, none⟩ = some (.int .u32 ((ls.getD q al0).i.c : Int)) := (BB.out.cell hb).trans (hc q (by omega) 4 (by omega))
        have a5 : wr.cell? ⟨b, off + q * 6 + 5, none⟩ = some (.string (ls.getD q al0).tgt) := (BB.out.cell hb).trans (hc q (by omega) 5 (by omega))
        clear hc
        have HOK := Lib.hid (HOKS.out q hq2)
        obtain ⟨fl, hfl⟩ := find_self (show q < ls.length by omega)
        have HBD : badL ls q = ((!(ls.getD q al0).lab.toList.isEmpty && !(findO ls (ls.getD q al0).lab == some q)) || (!(ls.getD q al0).tgt.toList.isEmpty && !(findO ls (ls.getD q al0).tgt).isSome)) := rfl
        have HIN : insL ls (q + 1) = insL ls q ++ [if (ls.getD q al0).tgt.toList.isEmpty then (ls.getD q al0).i else ⟨(ls.getD q al0).i.op, (ls.getD q al0).i.a, (ls.getD q al0).i.b, (findO ls (ls.getD q al0).tgt).getD 0⟩] := insL_succ ls q
        generalize (ls.getD q al0) = x at *
        have HSZ : x.lab.size ≤ maxLen := by have := HOK.out.lab; unfold maxLen; omega
        have HSY : x.tgt.size ≤ maxLen := by have := HOK.out.tgt; unfold maxLen; omega
        obtain ⟨lab, ⟨op, ia, ib, ic⟩, tgt⟩ := x
        simp only at a0 a1 a2 a3 a4 a5 HSZ HSY HBD HIN hfl
        go_upto_region 17 with fail
        have G0 : Hid ((wr.alloc (.cells #[.string lab, .int .u8 (op : Int), .int .u8 (ia : Int), .int .u16 (ib : Int), .int .u32 (ic : Int), .string tgt] 34)).heap[wr.heap.size]? = some (.cells #[.string lab, .int .u8 (op : Int), .int .u8 (ia : Int), .int .u16 (ib : Int), .int .u32 (ic : Int), .string tgt] 34 (0, 0))) := heap_alloc_new _ _
        have M0 : Hid (LMap (wr.alloc (.cells #[.string lab, .int .u8 (op : Int), .int .u8 (ia : Int), .int .u16 (ib : Int), .int .u32 (ic : Int), .string tgt] 34)) w.heap.size ls k) := HM.out.below (alloc_below _ _)
        have B0 : Hid (Below w.heap.size w (wr.alloc (.cells #[.string lab, .int .u8 (op : Int), .int .u8 (ia : Int), .int .u16 (ib : Int), .int .u32 (ic : Int), .string tgt] 34))) := BB.out.alloc BB.out.size _
        have O0 : Hid ((wr.alloc (.cells #[.string lab, .int .u8 (op : Int), .int .u8 (ia : Int), .int .u16 (ib : Int), .int .u32 (ic : Int), .string tgt] 34)).ownsRow (w.heap.size + 1) 32 4 u10 q (insVs (insL ls q))) := HO.out.alloc _
        generalize wr.alloc (.cells #[.string lab, .int .u8 (op : Int), .int .u8 (ia : Int), .int .u16 (ib : Int), .int .u32 (ic : Int), .string tgt] 34) = w1 at *
        have hBg : Hid (w.heap.size < wr.heap.size) := HM.out.lt
        have hOg : Hid (∀ j, u10.ownBlock = some j → j < wr.heap.size) := fun j hj => (HO.out.lt j hj).2
        clear HM BB HO SB
        generalize hg : wr.heap.size = g at *
        obtain ⟨ct, bt, l1, l2, l3⟩ := M0.out.look tgt HSY
        obtain ⟨cl, bl, m1, m2, m3⟩ := M0.out.look lab HSZ
        rw [← hn] at l3 m3
        rw [show first (hitL ls tgt) ls.length = findO ls tgt from rfl] at l3
        rw [show first (hitL ls lab) ls.length = findO ls lab from rfl, hfl] at m3
        rw [hfl] at HBD
        have c0 := cell_row (j := 0) G0.out rfl
        have c1 := cell_row (j := 1) G0.out rfl
        have c2 := cell_row (j := 2) G0.out rfl
        have c3 := cell_row (j := 3) G0.out rfl
        have c4 := cell_row (j := 4) G0.out rfl
        have c5 := cell_row (j := 5) G0.out rfl
        clear a0 a1 a2 a3 a4 a5
        have HM3 := Lib.hid m3; clear m3
        cases hle : lab.toList.isEmpty with
        | true =>
          have hlb : (!true && !(some fl == some q)) = false := rfl
          rw [hle] at HBD
          cases hte : tgt.toList.isEmpty with
          | true =>
            rw [hte] at HBD HIN
            have HOKK : badL ls q = false := by rw [HBD]; simp [hlb]
            rw [if_pos rfl] at HIN
            clear l3 HBD
            go_upto_region 22 with fail
            -- the instruction lies in block G0 of w1; it is appended
            clear c0 c1 c2 c3 c4 c5
            have c0 := cell_row (j := 0) G0.out rfl
            have c1 := cell_row (j := 1) G0.out rfl
            have c2 := cell_row (j := 2) G0.out rfl
            have c3 := cell_row (j := 3) G0.out rfl
            have c4 := cell_row (j := 4) G0.out rfl
            have c5 := cell_row (j := 5) G0.out rfl
            have OA := Lib.hid (O0.out.alloc (.cells #[.int .u8 (op : Int), .int .u8 (ia : Int), .int .u16 (ib : Int), .int .u32 (ic : Int)] 32))
            have HW : Hid (∀ j u, [Value.int .u8 (op : Int), .int .u8 (ia : Int), .int .u16 (ib : Int), .int .u32 (ic : Int)][j]? = some u → (w1.alloc (.cells #[.int .u8 (op : Int), .int .u8 (ia : Int), .int .u16 (ib : Int), .int .u32 (ic : Int)] 32)).cell? ((⟨w1.heap.size, 0, none⟩ : Addr).add j) = some u) := four_news _ _ _ _ _ _
            have HZ : Hid (w.heap.size + 1 ≤ w1.heap.size) := M0.out.lt
            go_wp2_with (at_builtin; refine wpList_append_own _ rfl _ _ 25 rfl (w.heap.size + 1) 32 i0 (.agg #[.int .u8 0, .int .u8 0, .int .u16 0, .int .u32 0]) 4 8 Tryz.underlying25 HIn.out HZ0.out HZ1.out HZ2.out rfl (by decide) u10 q _ rfl OA.out ⟨w1.heap.size, 0, none⟩ 1 1 [.int .u8 (op : Int), .int .u8 (ia : Int), .int .u16 (ib : Int), .int .u32 (ic : Int)] rfl rfl HW.out (fun u hu => by simp at hu; rcases hu with rfl | rfl | rfl | rfl <;> rfl) (by unfold maxLen; omega) (by omega) (by simp; have := HZ.out; omega) ?_)
            intro v2 w2 ho2 hg2 _
            have B2 : Hid (Below w.heap.size w w2) := (B0.out.alloc B0.out.size _).grown hg2 (by simp; have := HZ.out; omega) (fun j hj => Nat.le_trans (Nat.le_succ _) (O0.out.lt j hj).1)
            have S2 : Hid (w.heap.size + 1 ≤ w2.heap.size) := by have h1 := hg2.size; have := HZ.out; simp at h1; show _ ≤ _; omega
            have M2 : Hid (LMap w2 w.heap.size ls k) := (M0.out.below (alloc_below _ (.cells #[.int .u8 (op : Int), .int .u8 (ia : Int), .int .u16 (ib : Int), .int .u32 (ic : Int)] 32))).same (hg2.block _ (by simp; have := HZ.out; omega) (fun e => by have := (O0.out.lt _ e.symm).1; omega))
            have HOKS' : Hid (∀ j, j < q + 1 → badL ls j = false) := fun j hj => by rcases Nat.lt_succ_iff_lt_or_eq.1 hj with h | rfl <;> first | exact HS.out _ h | exact HOKK
            rw [insVs_snoc' HIN] at ho2
            have O2 := Lib.hid ho2
            clear ho2 hg2 OA HW
            go_wp2_with fail
            go_roundw
            case rel => exact ⟨q + 1, by omega, by go_num, HOKS', M2, O2, B2, S2⟩
            case measure => simp [intOf]; omega
          | false =>
            obtain ⟨rfl, hbt⟩ := l3 hte
            clear l3 l2
            rw [hte, if_neg (by decide)] at HIN
            rw [hte] at HBD
            cases hft : findO ls tgt with
            | none =>
              rw [hft] at hbt HBD l1
              simp only [Option.isSome_none] at hbt
              subst hbt
              have HBK : badL ls q = true := by rw [HBD]; simp
              clear HBD HIN
              have HF := Lib.hid (HRB.out q HN.out (first_some hq2 HBK HS.out))
              go_wp2_with fail
              go_ret3
              exact ⟨by rw [HF.out]; exact OutI.none _ _ _ _, B0.out⟩
            | some mt =>
              rw [hft] at hbt HBD l1 HIN
              simp only [Option.isSome_some] at hbt
              subst hbt
              have HOKK : badL ls q = false := by rw [HBD]; simp [hlb]
              simp only [Option.getD_some] at l1 HIN
              clear HBD
              have hmt : mt < 4294967296 := by have := (first_lt hft).1; omega
              have f4 : w1.frozen? ⟨g, 4, none⟩ = false := frozen_of_row _ _ _ _ _ G0.out
              go_upto_region 22 with fail
              have G5 : Hid ((w1.setCell ⟨g, 4, none⟩ (.int .u32 (mt : Int))).heap[g]? = some (.cells #[.string lab, .int .u8 (op : Int), .int .u8 (ia : Int), .int .u16 (ib : Int), .int .u32 (mt : Int), .string tgt] 34 (0, 0))) := heap_setCell_same _ _ _ _ _ _ G0.out
              have B5 : Hid (Below w.heap.size w (w1.setCell ⟨g, 4, none⟩ (.int .u32 (mt : Int)))) := B0.out.setCell (p := ⟨g, 4, none⟩) (Nat.le_of_lt hBg.out) _
              have M5 : Hid (LMap (w1.setCell ⟨g, 4, none⟩ (.int .u32 (mt : Int))) w.heap.size ls k) := M0.out.same (heap_setCell_other _ _ _ _ (Nat.ne_of_lt hBg.out))
              have O5 : Hid ((w1.setCell ⟨g, 4, none⟩ (.int .u32 (mt : Int))).ownsRow (w.heap.size + 1) 32 4 u10 q (insVs (insL ls q))) := own_same O0.out fun j hj => heap_setCell_other _ _ _ _ (Nat.ne_of_lt (hOg.out j hj))
              generalize w1.setCell ⟨g, 4, none⟩ (.int .u32 (mt : Int)) = w5 at *
              clear G0 B0 M0 O0
              -- the instruction lies in block G5 of w5; it is appended
              clear c0 c1 c2 c3 c4 c5
              have c0 := cell_row (j := 0) G5.out rfl
              have c1 := cell_row (j := 1) G5.out rfl
              have c2 := cell_row (j := 2) G5.out rfl
              have c3 := cell_row (j := 3) G5.out rfl
              have c4 := cell_row (j := 4) G5.out rfl
              have c5 := cell_row (j := 5) G5.out rfl
              have OA := Lib.hid (O5.out.alloc (.cells #[.int .u8 (op : Int), .int .u8 (ia : Int), .int .u16 (ib : Int), .int .u32 (mt : Int)] 32))
              have HW : Hid (∀ j u, [Value.int .u8 (op : Int), .int .u8 (ia : Int), .int .u16 (ib : Int), .int .u32 (mt : Int)][j]? = some u → (w5.alloc (.cells #[.int .u8 (op : Int), .int .u8 (ia : Int), .int .u16 (ib : Int), .int .u32 (mt : Int)] 32)).cell? ((⟨w5.heap.size, 0, none⟩ : Addr).add j) = some u) := four_news _ _ _ _ _ _
              have HZ : Hid (w.heap.size + 1 ≤ w5.heap.size) := M5.out.lt
              go_wp2_with (at_builtin; refine wpList_append_own _ rfl _ _ 25 rfl (w.heap.size + 1) 32 i0 (.agg #[.int .u8 0, .int .u8 0, .int .u16 0, .int .u32 0]) 4 8 Tryz.underlying25 HIn.out HZ0.out HZ1.out HZ2.out rfl (by decide) u10 q _ rfl OA.out ⟨w5.heap.size, 0, none⟩ 1 1 [.int .u8 (op : Int), .int .u8 (ia : Int), .int .u16 (ib : Int), .int .u32 (mt : Int)] rfl rfl HW.out (fun u hu => by simp at hu; rcases hu with rfl | rfl | rfl | rfl <;> rfl) (by unfold maxLen; omega) (by omega) (by simp; have := HZ.out; omega) ?_)
              intro v2 w2 ho2 hg2 _
              have B2 : Hid (Below w.heap.size w w2) := (B5.out.alloc B5.out.size _).grown hg2 (by simp; have := HZ.out; omega) (fun j hj => Nat.le_trans (Nat.le_succ _) (O5.out.lt j hj).1)
              have S2 : Hid (w.heap.size + 1 ≤ w2.heap.size) := by have h1 := hg2.size; have := HZ.out; simp at h1; show _ ≤ _; omega
              have M2 : Hid (LMap w2 w.heap.size ls k) := (M5.out.below (alloc_below _ (.cells #[.int .u8 (op : Int), .int .u8 (ia : Int), .int .u16 (ib : Int), .int .u32 (mt : Int)] 32))).same (hg2.block _ (by simp; have := HZ.out; omega) (fun e => by have := (O5.out.lt _ e.symm).1; omega))
              have HOKS' : Hid (∀ j, j < q + 1 → badL ls j = false) := fun j hj => by rcases Nat.lt_succ_iff_lt_or_eq.1 hj with h | rfl <;> first | exact HS.out _ h | exact HOKK
              rw [insVs_snoc' HIN] at ho2
              have O2 := Lib.hid ho2
              clear ho2 hg2 OA HW
              go_wp2_with fail
              go_roundw
              case rel => exact ⟨q + 1, by omega, by go_num, HOKS', M2, O2, B2, S2⟩
              case measure => simp [intOf]; omega
        | false =>
          obtain ⟨rfl, _⟩ := HM3.out hle
          simp only [Option.getD_some] at m1 m2
          by_cases hflq : fl = q
          · rw [hflq] at m1 m2 HBD hfl
            clear hflq
            have tq : ((q : Int) != (q : Int)) = false := by simp
            have hlb : (!false && !(some q == some q)) = false := by simp
            rw [hle] at HBD
            cases hte : tgt.toList.isEmpty with
            | true =>
              rw [hte] at HBD HIN
              have HOKK : badL ls q = false := by rw [HBD]; simp [hlb]
              rw [if_pos rfl] at HIN
              clear l3 HBD
              go_upto_region 22 with fail
              -- the instruction lies in block G0 of w1; it is appended
              clear c0 c1 c2 c3 c4 c5
              have c0 := cell_row (j := 0) G0.out rfl
              have c1 := cell_row (j := 1) G0.out rfl
              have c2 := cell_row (j := 2) G0.out rfl
              have c3 := cell_row (j := 3) G0.out rfl
              have c4 := cell_row (j := 4) G0.out rfl
              have c5 := cell_row (j := 5) G0.out rfl
              have OA := Lib.hid (O0.out.alloc (.cells #[.int .u8 (op : Int), .int .u8 (ia : Int), .int .u16 (ib : Int), .int .u32 (ic : Int)] 32))
              have HW : Hid (∀ j u, [Value.int .u8 (op : Int), .int .u8 (ia : Int), .int .u16 (ib : Int), .int .u32 (ic : Int)][j]? = some u → (w1.alloc (.cells #[.int .u8 (op : Int), .int .u8 (ia : Int), .int .u16 (ib : Int), .int .u32 (ic : Int)] 32)).cell? ((⟨w1.heap.size, 0, none⟩ : Addr).add j) = some u) := four_news _ _ _ _ _ _
              have HZ : Hid (w.heap.size + 1 ≤ w1.heap.size) := M0.out.lt
              go_wp2_with (at_builtin; refine wpList_append_own _ rfl _ _ 25 rfl (w.heap.size + 1) 32 i0 (.agg #[.int .u8 0, .int .u8 0, .int .u16 0, .int .u32 0]) 4 8 Tryz.underlying25 HIn.out HZ0.out HZ1.out HZ2.out rfl (by decide) u10 q _ rfl OA.out ⟨w1.heap.size, 0, none⟩ 1 1 [.int .u8 (op : Int), .int .u8 (ia : Int), .int .u16 (ib : Int), .int .u32 (ic : Int)] rfl rfl HW.out (fun u hu => by simp at hu; rcases hu with rfl | rfl | rfl | rfl <;> rfl) (by unfold maxLen; omega) (by omega) (by simp; have := HZ.out; omega) ?_)
              intro v2 w2 ho2 hg2 _
              have B2 : Hid (Below w.heap.size w w2) := (B0.out.alloc B0.out.size _).grown hg2 (by simp; have := HZ.out; omega) (fun j hj => Nat.le_trans (Nat.le_succ _) (O0.out.lt j hj).1)
              have S2 : Hid (w.heap.size + 1 ≤ w2.heap.size) := by have h1 := hg2.size; have := HZ.out; simp at h1; show _ ≤ _; omega
              have M2 : Hid (LMap w2 w.heap.size ls k) := (M0.out.below (alloc_below _ (.cells #[.int .u8 (op : Int), .int .u8 (ia : Int), .int .u16 (ib : Int), .int .u32 (ic : Int)] 32))).same (hg2.block _ (by simp; have := HZ.out; omega) (fun e => by have := (O0.out.lt _ e.symm).1; omega))
              have HOKS' : Hid (∀ j, j < q + 1 → badL ls j = false) := fun j hj => by rcases Nat.lt_succ_iff_lt_or_eq.1 hj with h | rfl <;> first | exact HS.out _ h | exact HOKK
              rw [insVs_snoc' HIN] at ho2
              have O2 := Lib.hid ho2
              clear ho2 hg2 OA HW
              go_wp2_with fail
              go_roundw
              case rel => exact ⟨q + 1, by omega, by go_num, HOKS', M2, O2, B2, S2⟩
              case measure => simp [intOf]; omega
            | false =>
              obtain ⟨rfl, hbt⟩ := l3 hte
              clear l3 l2
              rw [hte, if_neg (by decide)] at HIN
              rw [hte] at HBD
              cases hft : findO ls tgt with
              | none =>
                rw [hft] at hbt HBD l1
                simp only [Option.isSome_none] at hbt
                subst hbt
                have HBK : badL ls q = true := by rw [HBD]; simp
                clear HBD HIN
                have HF := Lib.hid (HRB.out q HN.out (first_some hq2 HBK HS.out))
                go_wp2_with fail
                go_ret3
                exact ⟨by rw [HF.out]; exact OutI.none _ _ _ _, B0.out⟩
              | some mt =>
                rw [hft] at hbt HBD l1 HIN
                simp only [Option.isSome_some] at hbt
                subst hbt
                have HOKK : badL ls q = false := by rw [HBD]; simp [hlb]
                simp only [Option.getD_some] at l1 HIN
                clear HBD
                have hmt : mt < 4294967296 := by have := (first_lt hft).1; omega
                have f4 : w1.frozen? ⟨g, 4, none⟩ = false := frozen_of_row _ _ _ _ _ G0.out
                go_upto_region 22 with fail
                have G5 : Hid ((w1.setCell ⟨g, 4, none⟩ (.int .u32 (mt : Int))).heap[g]? = some (.cells #[.string lab, .int .u8 (op : Int), .int .u8 (ia : Int), .int .u16 (ib : Int), .int .u32 (mt : Int), .string tgt] 34 (0, 0))) := heap_setCell_same _ _ _ _ _ _ G0.out
                have B5 : Hid (Below w.heap.size w (w1.setCell ⟨g, 4, none⟩ (.int .u32 (mt : Int)))) := B0.out.setCell (p := ⟨g, 4, none⟩) (Nat.le_of_lt hBg.out) _
                have M5 : Hid (LMap (w1.setCell ⟨g, 4, none⟩ (.int .u32 (mt : Int))) w.heap.size ls k) := M0.out.same (heap_setCell_other _ _ _ _ (Nat.ne_of_lt hBg.out))
                have O5 : Hid ((w1.setCell ⟨g, 4, none⟩ (.int .u32 (mt : Int))).ownsRow (w.heap.size + 1) 32 4 u10 q (insVs (insL ls q))) := own_same O0.out fun j hj => heap_setCell_other _ _ _ _ (Nat.ne_of_lt (hOg.out j hj))
                generalize w1.setCell ⟨g, 4, none⟩ (.int .u32 (mt : Int)) = w5 at *
                clear G0 B0 M0 O0
                -- the instruction lies in block G5 of w5; it is appended
                clear c0 c1 c2 c3 c4 c5
                have c0 := cell_row (j := 0) G5.out rfl
                have c1 := cell_row (j := 1) G5.out rfl
                have c2 := cell_row (j := 2) G5.out rfl
                have c3 := cell_row (j := 3) G5.out rfl
                have c4 := cell_row (j := 4) G5.out rfl
                have c5 := cell_row (j := 5) G5.out rfl
                have OA := Lib.hid (O5.out.alloc (.cells #[.int .u8 (op : Int), .int .u8 (ia : Int), .int .u16 (ib : Int), .int .u32 (mt : Int)] 32))
                have HW : Hid (∀ j u, [Value.int .u8 (op : Int), .int .u8 (ia : Int), .int .u16 (ib : Int), .int .u32 (mt : Int)][j]? = some u → (w5.alloc (.cells #[.int .u8 (op : Int), .int .u8 (ia : Int), .int .u16 (ib : Int), .int .u32 (mt : Int)] 32)).cell? ((⟨w5.heap.size, 0, none⟩ : Addr).add j) = some u) := four_news _ _ _ _ _ _
                have HZ : Hid (w.heap.size + 1 ≤ w5.heap.size) := M5.out.lt
                go_wp2_with (at_builtin; refine wpList_append_own _ rfl _ _ 25 rfl (w.heap.size + 1) 32 i0 (.agg #[.int .u8 0, .int .u8 0, .int .u16 0, .int .u32 0]) 4 8 Tryz.underlying25 HIn.out HZ0.out HZ1.out HZ2.out rfl (by decide) u10 q _ rfl OA.out ⟨w5.heap.size, 0, none⟩ 1 1 [.int .u8 (op : Int), .int .u8 (ia : Int), .int .u16 (ib : Int), .int .u32 (mt : Int)] rfl rfl HW.out (fun u hu => by simp at hu; rcases hu with rfl | rfl | rfl | rfl <;> rfl) (by unfold maxLen; omega) (by omega) (by simp; have := HZ.out; omega) ?_)
                intro v2 w2 ho2 hg2 _
                have B2 : Hid (Below w.heap.size w w2) := (B5.out.alloc B5.out.size _).grown hg2 (by simp; have := HZ.out; omega) (fun j hj => Nat.le_trans (Nat.le_succ _) (O5.out.lt j hj).1)
                have S2 : Hid (w.heap.size + 1 ≤ w2.heap.size) := by have h1 := hg2.size; have := HZ.out; simp at h1; show _ ≤ _; omega
                have M2 : Hid (LMap w2 w.heap.size ls k) := (M5.out.below (alloc_below _ (.cells #[.int .u8 (op : Int), .int .u8 (ia : Int), .int .u16 (ib : Int), .int .u32 (mt : Int)] 32))).same (hg2.block _ (by simp; have := HZ.out; omega) (fun e => by have := (O5.out.lt _ e.symm).1; omega))
                have HOKS' : Hid (∀ j, j < q + 1 → badL ls j = false) := fun j hj => by rcases Nat.lt_succ_iff_lt_or_eq.1 hj with h | rfl <;> first | exact HS.out _ h | exact HOKK
                rw [insVs_snoc' HIN] at ho2
                have O2 := Lib.hid ho2
                clear ho2 hg2 OA HW
                go_wp2_with fail
                go_roundw
                case rel => exact ⟨q + 1, by omega, by go_num, HOKS', M2, O2, B2, S2⟩
                case measure => simp [intOf]; omega
          · have tq : ((fl : Int) != (q : Int)) = true := bne_iff_ne.2 (by omega)
            have HBK : badL ls q = true := by rw [HBD, hle]; simp [hflq]
            clear HBD HIN
            have HF := Lib.hid (HRB.out q HN.out (first_some hq2 HBK HS.out))
            go_wp2_with fail
            go_ret3
            exact ⟨by rw [HF.out]; exact OutI.none _ _ _ _, B0.out⟩
    have t2 : decide ((k : Int) < (n : Int)) = true := decide_eq_true (by omega)
    obtain ⟨b, off, rfl, hb, hc⟩ := HA.out.at (by omega)
    have a0 : wr.cell? ⟨b, off + k * 6, none⟩ = some (.string (ls.getD k al0).lab) := (BB.out.cell hb).trans (hc k (by omega) 0 (by omega))
    have a1 : wr.cell? ⟨b, off + k * 6 + 1, none⟩ = some (.int .u8 ((ls.getD k al0).i.op : Int)) := (BB.out.cell hb).trans (hc k (by omega) 1 (by omega))
    have a2 : wr.cell? ⟨b, off + k * 6 + 2, none⟩ = some (.int .u8 ((ls.getD k al0).i.a : Int)) := (BB.out.cell hb).trans (hc k (by omega) 2 (by omega))
    have a3 : wr.cell? ⟨b, off + k * 6 + 3, none⟩ = some (.int .u16 ((ls.getD k al0).i.b : Int)) := (BB.out.cell hb).trans (hc k (by omega) 3 (by omega))
    have a4 : wr.cell? ⟨b, off + k * 6 + 4, none⟩ = some (.int .u32 ((ls.getD k al0).i.c : Int)) := (BB.out.cell hb).trans (hc k (by omega) 4 (by omega))
    have a5 : wr.cell? ⟨b, off + k * 6 + 5, none⟩ = some (.string (ls.getD k al0).tgt) := (BB.out.cell hb).trans (hc k (by omega) 5 (by omega))
    clear hc
    have HO := Lib.hid (HOKS.out k hk2)
    have HMA : Hid (mayL ls k = !(ls.getD k al0).may) := rfl
    have HMS : Hid (∀ W, LMap W w.heap.size ls k → (ls.getD k al0).lab.toList.isEmpty = false → first (hitL ls (ls.getD k al0).lab) k = none → ∃ w', (Instr.mapUpdate 50 (.map (some w.heap.size)) (.string (ls.getD k al0).lab) (.int .i64 (k : Int))).run Tryz.prog W = .ok () w' ∧ LMap w' w.heap.size ls (k + 1) ∧ W.grownBy w' (some w.heap.size)) := fun W h h1 h2 => LMap.set h h1 h2 (by have := (HOKS.out k hk2).lab; unfold maxLen; omega) (by omega)
    have HMK : Hid (∀ W, LMap W w.heap.size ls k → ((ls.getD k al0).lab.toList.isEmpty = true ∨ (first (hitL ls (ls.getD k al0).lab) k).isSome = true) → LMap W w.heap.size ls (k + 1)) := fun W h h1 => LMap.skip h h1
    generalize (ls.getD k al0) = x at *
    have HC := fun W => alm_any x W HO.out
    have HSZ : x.lab.size ≤ maxLen := by have := HO.out.lab; unfold maxLen; omega
    unfold AL.val AL.cells at HC
    have HC := Lib.hid HC
    generalize x.may = my at *
    obtain ⟨lab, ⟨op, ia, ib, ic⟩, tgt⟩ := x
    simp only at a0 a1 a2 a3 a4 a5 HC HMS HMK HSZ
    have G0 : Hid ((wr.alloc (.cells #[.string lab, .int .u8 (op : Int), .int .u8 (ia : Int), .int .u16 (ib : Int), .int .u32 (ic : Int), .string tgt] 34)).heap[wr.heap.size]? = some (.cells #[.string lab, .int .u8 (op : Int), .int .u8 (ia : Int), .int .u16 (ib : Int), .int .u32 (ic : Int), .string tgt] 34 (0, 0))) := heap_alloc_new _ _
    have M0 : Hid (LMap (wr.alloc (.cells #[.string lab, .int .u8 (op : Int), .int .u8 (ia : Int), .int .u16 (ib : Int), .int .u32 (ic : Int), .string tgt] 34)) w.heap.size ls k) := HM.out.below (alloc_below _ _)
    have B0 : Hid (Below w.heap.size w (wr.alloc (.cells #[.string lab, .int .u8 (op : Int), .int .u8 (ia : Int), .int .u16 (ib : Int), .int .u32 (ic : Int), .string tgt] 34))) := BB.out.alloc BB.out.size _
    have L0 := Lib.hid (heap_lt G0.out)
    go_wp2_with fail
    refine (HC.out _).mono ?_
    rintro e w2 ⟨rfl, hb2⟩
    have G2 := Lib.hid (kept G0.out hb2)
    have M2 := Lib.hid (M0.out.below hb2)
    have B2 : Hid (Below w.heap.size w w2) := B0.out.trans (hb2.mono B0.out.size)
    clear hb2 G0 M0 B0 a0 a1 a2 a3 a4 a5 HM BB HC
    cases my with
    | false =>
      have HF := Lib.hid (HRA.out k (first_some hk2 HMA.out HS.out))
      go_wp2_with fail
      go_ret3
      exact ⟨by rw [HF.out]; exact OutI.none _ _ _ _, B2.out⟩
    | true =>
    have HS' : Hid (∀ j, j < k + 1 → mayL ls j = false) := fun j hj => by rcases Nat.lt_succ_iff_lt_or_eq.1 hj with h | rfl <;> first | exact HS.out _ h | exact HMA.out
    have c0 := cell_row (j := 0) G2.out rfl
    obtain ⟨cc, bb, l1, l2, l3⟩ := M2.out.look lab HSZ
    have HL3 := Lib.hid l3
    clear l3 HS
    generalize hle : lab.toList.isEmpty = le at *
    cases le with
    | true =>
      have M3 := Lib.hid (HMK.out w2 M2.out (.inl rfl))
      go_wp2_with fail
      go_roundw
      case rel => exact ⟨k + 1, by omega, by go_num, HS', M3, B2⟩
      case measure => simp [intOf]; omega
    | false =>
    obtain ⟨rfl, hbb⟩ := HL3.out rfl
    cases hf : first (hitL ls lab) k with
    | some m =>
      rw [hf] at hbb
      subst hbb
      have M3 := Lib.hid (HMK.out w2 M2.out (.inr (by rw [hf]; rfl)))
      rw [hf] at l1 l2
      simp only [Option.getD_some, Option.isSome_some] at l1 l2
      clear HL3 hf
      go_wp2_with fail
      go_roundw
      case rel => exact ⟨k + 1, by omega, by go_num, HS', M3, B2⟩
      case measure => simp [intOf]; omega
    | none =>
      rw [hf] at hbb
      subst hbb
      rw [hf] at l1 l2
      simp only [Option.getD_none, Option.isSome_none] at l1 l2
      obtain ⟨w3, hu, hm3, hg3⟩ := HMS.out w2 M2.out rfl hf
      have M3 := Lib.hid hm3
      have B3 : Hid (Below w.heap.size w w3) := B2.out.grown hg3 B2.out.size (fun j hj => by cases hj; exact Nat.le_refl _)
      clear HL3 hf hm3 hg3
      go_wp2_with fail
      go_roundw
      case rel => exact ⟨k + 1, by omega, by go_num, HS', M3, B3⟩
      case measure => simp [intOf]; omega
end Go.Proofs.YtalmgjeiopjhlaaGreatDoor
