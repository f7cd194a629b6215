/- The walk of IsaBack. -/
import Derived.Test.YtobagnabkphegaaDoorIsaBack
import Derived.Deep.RegionHeld3
import Derived.BigQuiet
namespace Go.Proofs.YtobagnabkphegaaDoor
open Go.RowKit
set_option linter.unusedVariables false
theorem read_cases (len : Nat) (X : Nat → Nat) : (readE len X ≠ 0 ∧ readI len X = noIns) ∨ (readE len X = 0 ∧ readI len X = insOf X ∧ 8 ≤ len ∧ (insOf X).may = true) := by
  unfold readE readI
  by_cases h : len < 8
  · left; rw [if_pos h, if_pos h]; exact ⟨by omega, rfl⟩
  · rw [if_neg h, if_neg h]
    cases hm : (insOf X).may
    · left; exact ⟨by simp, by simp⟩
    · right; exact ⟨by simp, by simp, by omega, rfl⟩
theorem read_cat {i : Ins} (h : i.ok) (len : Nat) (X : Nat → Nat) : readI (8 + len) (catX i.byt X) = (if i.may then i else noIns) ∧ readE (8 + len) (catX i.byt X) = (if i.may then 0 else 90) := by
  unfold readI readE
  have h8 : ¬ 8 + len < 8 := by omega
  rw [if_neg h8, if_neg h8, insOf_byt h]
  exact ⟨rfl, rfl⟩
theorem eqz (w : World) : (Op.equalIn 10000 27 (.agg #[.int .u8 0, .int .u8 0, .int .u16 0, .int .u32 0]) (.agg #[.int .u8 0, .int .u8 0, .int .u16 0, .int .u32 0])).run Tryd.prog w = .ok true w := by kernel_rfl
theorem wpList_append_run {P : Program} {ops : Array Oper} {rest : List Oper} {o : Oper} {a : Act} {w : World} {Q : Exit → Act → World → Prop} (hgd : o.guard = none) (s x : Operand) (t : TypeId) (ho : o.op = .call { callee := .builtin .append, args := #[s, x], argTypes := #[t, t] })
    (v : Value) (w' : World) (y z : Value) (hs : a.eval s = y) (hx : a.eval x = z) (hr : ∀ ty, (Builtin.append_ #[t, t] ty #[y, z]).run P w = .ok v w') (h : wpList P ops Q rest (a.put o.dst v) w') : wpList P ops Q (o :: rest) a w := by
  refine wpList_plain hgd fun K hK => ?_
  unfold Oper.wp execOp
  simp only [ho, resolve, invoke, builtin, Sem.run_bind, Sem.run_pure, Result.andThen_ok, List.map_toArray, List.map_cons, List.map_nil, hs, hx, hr]
  exact hK _ _ h
def insA (i : Ins) : Array Value := #[.int .u8 (i.op : Int), .int .u8 (i.a : Int), .int .u16 (i.b : Int), .int .u32 (i.c : Int)]
set_option maxHeartbeats 16000000 in
set_option maxRecDepth 100000 in
theorem back_any (i : Ins) (hi : i.ok) (a : Option Addr) (len cap : Nat) (X : Nat → Nat) (w : World) (hX : SliceAt w a len (bV X)) (hl : ∀ j, X j < 256) (hlen : len ≤ 140737488351232) (hcap : len ≤ cap) :
    Calls Tryd.prog 4 #[i.val, .slice a len cap] w fun e w' => e = .returned (.bool true) ∧ Below w.heap.size w w' := by
  have HXl := Lib.hid hl
  have HX := Lib.hid hX
  have HOK := Lib.hid hi
  obtain ⟨wa, hwa⟩ : ∃ x, x = w.alloc (.cells (insA i) 27) := ⟨_, rfl⟩
  have I0 : Hid (wa.heap[w.heap.size]? = some (.cells (insA i) 27 (0, 0))) := by rw [hwa]; exact heap_alloc_new _ _
  have BA : Hid (Below w.heap.size w wa) := by rw [hwa]; exact alloc_below _ _
  unfold Ins.val
  clear hl hX hi
  cases hmay : i.may
  case false =>
    have HMI := Lib.hid hmay
    clear hmay
    go_enter Tryd.func4, Tryd.ntmps4
    go_wp2_with fail
    rw [show w.alloc (.cells #[.int .u8 (i.op : Int), .int .u8 (i.a : Int), .int .u16 (i.b : Int), .int .u32 (i.c : Int)] 27) = wa from hwa.symm]
    generalize hgb : w.heap.size = gb at *
    clear hwa
    refine (known_any wa).mono ?_
    rintro e w1 ⟨rfl, hb⟩
    have I1 := kept I0.out hb
    have B1 : Hid (Below gb w w1) := BA.out.trans (hb.mono (Nat.le_of_lt (heap_lt I0.out)))
    clear hb I0 BA
    unfold insA at I1
    have z0 := cell_row (j := 0) I1 rfl
    have z1 := cell_row (j := 1) I1 rfl
    have z2 := cell_row (j := 2) I1 rfl
    have z3 := cell_row (j := 3) I1 rfl
    have z4 := heap_lt I1
    have HI1 := Lib.hid I1
    clear I1
    go_wp2_with fail
    refine (show Calls Tryd.prog 11 #[.agg #[.int .u8 (i.op : Int), .int .u8 (i.a : Int), .int .u16 (i.b : Int), .int .u32 (i.c : Int)]] w1 _ from bytes_any i w1 HOK.out).mono ?_
    rintro e w2 ⟨rfl, hb⟩
    have HI2 := Lib.hid (kept HI1.out hb)
    have B2 : Hid (Below gb w w2) := B1.out.trans (hb.mono (Nat.le_of_lt z4))
    clear hb z0 z1 z2 z3 z4 HI1 B1
    rw [show i.bytL.toArray = #[bV i.byt 0, bV i.byt 1, bV i.byt 2, bV i.byt 3, bV i.byt 4, bV i.byt 5, bV i.byt 6, bV i.byt 7] from rfl]
    unfold bV
    obtain ⟨w3, hw3⟩ : ∃ y, y = w2.alloc (.cells #[.int .u8 ((i.byt 0 : Nat) : Int), .int .u8 ((i.byt 1 : Nat) : Int), .int .u8 ((i.byt 2 : Nat) : Int), .int .u8 ((i.byt 3 : Nat) : Int), .int .u8 ((i.byt 4 : Nat) : Int), .int .u8 ((i.byt 5 : Nat) : Int), .int .u8 ((i.byt 6 : Nat) : Int), .int .u8 ((i.byt 7 : Nat) : Int)] 32) := ⟨_, rfl⟩
    have hl2 := heap_lt HI2.out
    have B3 : Hid (Below gb w w3) := by rw [hw3]; exact B2.out.alloc (Nat.le_of_lt hl2) _
    have HI3 : Hid (w3.heap[gb]? = some (.cells #[.int .u8 (i.op : Int), .int .u8 (i.a : Int), .int .u16 (i.b : Int), .int .u32 (i.c : Int)] 27 (0, 0))) := by rw [hw3]; exact kept HI2.out (alloc_below _ _)
    have K3 : w3.heap[w2.heap.size]? = some (.cells ((List.range 8).map (bV i.byt)).toArray 32 (0, 0)) := by rw [hw3]; exact heap_alloc_new _ _
    have HX3 : SliceAt w3 a len (bV X) := HX.out.below (by rw [hgb]; exact B3.out)
    obtain ⟨a', c', w4, hap, hc4, hs4, hb4⟩ := append_bytes w3 w2.heap.size i.byt K3 a len cap X HX3 hlen
    have HC4 := Lib.hid hc4; have HS4 := Lib.hid hs4
    have B4 : Hid (Below gb w w4) := B3.out.trans (hb4.mono (Nat.le_of_lt (heap_lt HI3.out)))
    have HI4 := Lib.hid (kept HI3.out hb4)
    have hz := zero32
    unfold Z8 at hz
    have hsl := slice_all
    clear hc4 hs4 hb4 HX3 K3 hl2
    go_upto_region 4 with fail
    rw [← hw3]
    clear hw3 hz
    have HAP := Lib.hid hap
    clear hap
    go_wp2_with (at_builtin; refine wpList_append_run rfl _ _ 22 rfl _ _ _ _ rfl rfl HAP.out ?_)
    refine (read_any a' (8 + len) c' (catX i.byt X) w4 HS4.out (catX_lt (byt_lt HOK.out) HXl.out) (by omega) HC4.out).mono ?_
    rintro e w5 ⟨rfl, hb⟩
    rw [(read_cat HOK.out len X).1, (read_cat HOK.out len X).2, HMI.out]
    simp only [Bool.false_eq_true, if_false, noIns]
    unfold Ins.val
    have B5 : Hid (Below gb w w5) := B4.out.trans (hb.mono (Nat.le_of_lt (heap_lt HI4.out)))
    have HI5 := Lib.hid (kept HI4.out hb)
    have hl5 := heap_lt HI5.out
    obtain ⟨w6, hw6⟩ : ∃ y, y = w5.alloc (.cells #[.int .u8 0, .int .u8 0, .int .u16 0, .int .u32 0] 27) := ⟨_, rfl⟩
    have B6 : Hid (Below gb w w6) := by rw [hw6]; exact B5.out.alloc (Nat.le_of_lt hl5) _
    have HI6 : w6.heap[gb]? = some (.cells #[.int .u8 (i.op : Int), .int .u8 (i.a : Int), .int .u16 (i.b : Int), .int .u32 (i.c : Int)] 27 (0, 0)) := by rw [hw6]; exact kept HI5.out (alloc_below _ _)
    have HG6 : w6.heap[w5.heap.size]? = some (.cells #[.int .u8 0, .int .u8 0, .int .u16 0, .int .u32 0] 27 (0, 0)) := by rw [hw6]; exact heap_alloc_new _ _
    have hgr : Hid (gb < w5.heap.size) := hl5
    clear hb B4 HI4 HS4 HC4 HAP B3 HI3 B5 HI5
    go_upto_region 5 with fail
    rw [← hw6]
    generalize w5.heap.size = gr at *
    clear hw6 hl5
    have z0 := cell_row (j := 0) HI6 rfl
    have z1 := cell_row (j := 1) HI6 rfl
    have z2 := cell_row (j := 2) HI6 rfl
    have z3 := cell_row (j := 3) HI6 rfl
    have z4 := heap_lt HI6
    have I6 := Lib.hid HI6
    have G6 := Lib.hid HG6
    clear HI6 HG6
    go_wp2_with fail
    refine (show Calls Tryd.prog 12 #[.agg #[.int .u8 (i.op : Int), .int .u8 (i.a : Int), .int .u16 (i.b : Int), .int .u32 (i.c : Int)]] w6 _ from may_any i w6 HOK.out).mono ?_
    rintro e w7 ⟨rfl, hb⟩
    rw [HMI.out]
    have B7 : Hid (Below gb w w7) := B6.out.trans (hb.mono (Nat.le_of_lt z4))
    have I7 := kept I6.out hb
    have G7 := kept G6.out hb
    clear hb z0 z1 z2 z3 z4 I6 G6 B6
    have z0 := cell_row (j := 0) I7 rfl
    have z1 := cell_row (j := 1) I7 rfl
    have z2 := cell_row (j := 2) I7 rfl
    have z3 := cell_row (j := 3) I7 rfl
    have z4 := heap_lt I7
    have c0 := cell_row (j := 0) G7 rfl
    have c1 := cell_row (j := 1) G7 rfl
    have c2 := cell_row (j := 2) G7 rfl
    have c3 := cell_row (j := 3) G7 rfl
    have c4 := heap_lt G7
    have G7h := Lib.hid G7
    have heq := fun W => equal_ins i i W
    rw [Ins.eq_refl] at heq
    unfold Ins.val at heq
    have HRD : Hid (Calls Tryd.prog 9 #[.slice a len cap] w7 (ReadPost len X w7)) := read_any a len cap X w7 (HX.out.below (by first | exact B7.out | (rw [hgb]; exact B7.out))) HXl.out (by omega) hcap
    have hzb := Nat.le_of_lt z4
    clear I7 G7
    go_wp2_with fail
    refine HRD.out.mono ?_
    rintro e w8 ⟨rfl, hb⟩
    have B8 : Hid (Below gb w w8) := B7.out.trans (hb.mono hzb)
    have GR8 := Lib.hid (kept G7h.out hb)
    clear hb z0 z1 z2 z3 z4 c0 c1 c2 c3 c4 heq HRD G7h B7 hzb
    have c0 := cell_row (j := 0) GR8.out rfl
    have c1 := cell_row (j := 1) GR8.out rfl
    have c2 := cell_row (j := 2) GR8.out rfl
    have c3 := cell_row (j := 3) GR8.out rfl
    have f0 : w8.frozen? ⟨gr, 0, none⟩ = false := frozen_of_row _ _ _ _ _ GR8.out
    have f1 : w8.frozen? ⟨gr, 1, none⟩ = false := frozen_of_row _ _ _ _ _ GR8.out
    have f2 : w8.frozen? ⟨gr, 2, none⟩ = false := frozen_of_row _ _ _ _ _ GR8.out
    have f3 : w8.frozen? ⟨gr, 3, none⟩ = false := frozen_of_row _ _ _ _ _ GR8.out
    have hl8 := heap_lt GR8.out
    have HGA : Hid (∀ vs : List Value, vs.length = 4 → (w8.setCells gr 0 vs).heap[gr]? = some (.cells vs.toArray 27 (0, 0))) := fun vs hv => setCells_all vs GR8.out hv
    have HBA : Hid (∀ vs : List Value, Below gb w (w8.setCells gr 0 vs)) := fun vs => setCells_below B8.out (by have := hgr.out; omega) _ _
    have HSA : Hid (∀ vs : List Value, SliceAt (w8.setCells gr 0 vs) a len (bV X)) := fun vs => HX.out.below (by first | exact HBA.out vs | (rw [hgb]; exact HBA.out vs))
    rcases read_cases len X with ⟨hE, hI⟩ | ⟨hE, hI, hlen, hmx⟩
    · rw [hI]
      unfold Ins.val noIns
      have t1 : (readE len X == 0) = false := by simpa using hE
      have t2 : (readE len X != 0) = true := by simpa using hE
      clear hI hE
      generalize readE len X = E2 at *
      have hz := eqz
      clear GR8 HX
      go_wp2_with fail
      go_ret
      exact ⟨rfl, by first | exact HBA.out [_, _, _, _] | (rw [hgb]; exact HBA.out [_, _, _, _])⟩
    · rw [hI, hE]
      unfold Ins.val
      have HOX := Lib.hid (insOf_ok HXl.out)
      have HBY := Lib.hid (fun j hj => byt_insOf HXl.out j hj)
      have HMX := Lib.hid hmx
      obtain ⟨xb, xo, rfl, -, -⟩ := HX.out.at (show 0 < len by omega)
      clear hI hE hmx GR8
      generalize insOf X = x at *
      obtain ⟨w9, hw9⟩ : ∃ y, y = w8.setCells gr 0 [.int .u8 (x.op : Int), .int .u8 (x.a : Int), .int .u16 (x.b : Int), .int .u32 (x.c : Int)] := ⟨_, rfl⟩
      have G9 : Hid (w9.heap[gr]? = some (.cells (insA x) 27 (0, 0))) := by rw [hw9]; exact HGA.out [_, _, _, _] rfl
      have B9 : Hid (Below gb w w9) := by rw [hw9]; exact HBA.out _
      have HW9 : Hid (w9 = (((w8.setCell ⟨gr, 0, none⟩ (.int .u8 (x.op : Int))).setCell ⟨gr, 1, none⟩ (.int .u8 (x.a : Int))).setCell ⟨gr, 2, none⟩ (.int .u16 (x.b : Int))).setCell ⟨gr, 3, none⟩ (.int .u32 (x.c : Int))) := hw9
      clear hw9 HGA HBA HSA
      go_upto_region 10 with fail
      rw [← HW9.out]
      clear HW9 c0 c1 c2 c3 f0 f1 f2 f3 hl8
      have z0 := cell_row (j := 0) G9.out rfl
      have z1 := cell_row (j := 1) G9.out rfl
      have z2 := cell_row (j := 2) G9.out rfl
      have z3 := cell_row (j := 3) G9.out rfl
      have z4 := heap_lt G9.out
      go_wp2_with fail
      refine (show Calls Tryd.prog 11 #[.agg #[.int .u8 (x.op : Int), .int .u8 (x.a : Int), .int .u16 (x.b : Int), .int .u32 (x.c : Int)]] w9 _ from bytes_any x w9 HOX.out).mono ?_
      rintro e wc ⟨rfl, hb⟩
      have BC : Hid (Below gb w wc) := B9.out.trans (hb.mono (by have := heap_lt G9.out; have := hgr.out; omega))
      have GC := Lib.hid (kept G9.out hb)
      clear hb z0 z1 z2 z3 z4 G9 B9
      rw [show x.bytL.toArray = #[bV x.byt 0, bV x.byt 1, bV x.byt 2, bV x.byt 3, bV x.byt 4, bV x.byt 5, bV x.byt 6, bV x.byt 7] from rfl]
      unfold bV
      obtain ⟨wd, hwd⟩ : ∃ y, y = wc.alloc (.cells #[.int .u8 ((x.byt 0 : Nat) : Int), .int .u8 ((x.byt 1 : Nat) : Int), .int .u8 ((x.byt 2 : Nat) : Int), .int .u8 ((x.byt 3 : Nat) : Int), .int .u8 ((x.byt 4 : Nat) : Int), .int .u8 ((x.byt 5 : Nat) : Int), .int .u8 ((x.byt 6 : Nat) : Int), .int .u8 ((x.byt 7 : Nat) : Int)] 32) := ⟨_, rfl⟩
      have BD : Hid (Below gb w wd) := by rw [hwd]; exact BC.out.alloc (by have := heap_lt GC.out; have := hgr.out; omega) _
      have GD : Hid (wd.heap[gr]? = some (.cells (insA x) 27 (0, 0))) := by rw [hwd]; exact kept GC.out (alloc_below _ _)
      have KD : Hid (wd.heap[wc.heap.size]? = some (.cells ((List.range 8).map (bV x.byt)).toArray 32 (0, 0))) := by rw [hwd]; exact heap_alloc_new _ _
      have hz := zero32
      unfold Z8 at hz
      go_upto_region 11 with fail
      rw [← hwd]
      generalize wc.heap.size = gk at *
      clear hwd hz BC GC
      have HMAY : Hid (Calls Tryd.prog 12 #[.agg #[.int .u8 (x.op : Int), .int .u8 (x.a : Int), .int .u16 (x.b : Int), .int .u32 (x.c : Int)]] wd.drew fun e w' => e = .returned (.bool true) ∧ Below wd.heap.size wd w') := by
        refine (show Calls Tryd.prog 12 #[.agg #[.int .u8 (x.op : Int), .int .u8 (x.a : Int), .int .u16 (x.b : Int), .int .u32 (x.c : Int)]] wd.drew _ from may_any x wd.drew HOX.out).mono ?_
        rintro e w' ⟨he, hb⟩
        exact ⟨by rw [he, HMX.out], ⟨hb.os, hb.tape, hb.output, hb.size, hb.block⟩⟩
      have HK2 : Hid (∀ V, Below wd.heap.size wd V → (convert 22 9 (.slice (some ⟨gk, 0, none⟩) 8 8)).run Tryd.prog V = .ok (.string (strB X 8)) V) := fun V hV => by
        rw [← strB_congr (fun j hj => HBY.out j hj)]
        exact str_at 8 (fun j hj => by rw [Nat.zero_add]; exact cell_row (kept KD.out hV) (by simp [hj]))
      have HK3 : Hid (∀ V, Below wd.heap.size wd V → (convert 22 9 (.slice (some ⟨xb, xo, none⟩) 8 cap)).run Tryd.prog V = .ok (.string (strB X 8)) V) := fun V hV => by
        have hBV : Below gb w V := BD.out.trans (hV.mono (by have := heap_lt GD.out; have := hgr.out; omega))
        obtain ⟨b', o', e, hlt, hc⟩ := (HX.out.below (w' := V) (by first | exact hBV | (rw [hgb]; exact hBV))).at (show 0 < len by omega)
        cases e
        exact str_at cap (fun j hj => hc j (by omega))
      have hsl := slice_all
      have q8 : (8 : Int) ≤ (cap : Int) := by omega
      have HFIN : Hid (∀ V, Below wd.heap.size wd V → Below gb w V) := fun V hV => BD.out.trans (hV.mono (by have := heap_lt GD.out; have := hgr.out; omega))
      have GDh := GD
      clear HBY HX KD HOX HMX BD GD
      generalize strB X 8 = S8 at *
      have SK0 : Hid (((convert 22 9 (.slice (some ⟨gk, 0, none⟩) 8 8)).run Tryd.prog wd.drew = .ok (.string S8) wd.drew ∧ (convert 22 9 (.slice (some ⟨xb, xo, none⟩) 8 cap)).run Tryd.prog wd.drew = .ok (.string S8) wd.drew ∧ (wd.drew.cell? ⟨gr, 0, none⟩ = some (.int .u8 (x.op : Int)) ∧ wd.drew.cell? ⟨gr, 1, none⟩ = some (.int .u8 (x.a : Int)) ∧ wd.drew.cell? ⟨gr, 2, none⟩ = some (.int .u16 (x.b : Int)) ∧ wd.drew.cell? ⟨gr, 3, none⟩ = some (.int .u32 (x.c : Int)))) ∧ gr < wd.drew.heap.size) := ⟨⟨HK2.out _ ⟨rfl, rfl, rfl, Nat.le_refl _, fun _ _ => rfl⟩, HK3.out _ ⟨rfl, rfl, rfl, Nat.le_refl _, fun _ _ => rfl⟩, cell_row (j := 0) GDh.out rfl, cell_row (j := 1) GDh.out rfl, cell_row (j := 2) GDh.out rfl, cell_row (j := 3) GDh.out rfl⟩, heap_lt GDh.out⟩
      go_region_held3 (fun V => ((convert 22 9 (.slice (some ⟨gk, 0, none⟩) 8 8)).run Tryd.prog V = .ok (.string S8) V ∧ (convert 22 9 (.slice (some ⟨xb, xo, none⟩) 8 cap)).run Tryd.prog V = .ok (.string S8) V ∧ (V.cell? ⟨gr, 0, none⟩ = some (.int .u8 (x.op : Int)) ∧ V.cell? ⟨gr, 1, none⟩ = some (.int .u8 (x.a : Int)) ∧ V.cell? ⟨gr, 2, none⟩ = some (.int .u16 (x.b : Int)) ∧ V.cell? ⟨gr, 3, none⟩ = some (.int .u32 (x.c : Int)))) ∧ gr < V.heap.size)
        (first | exact SK1.out | exact SK0.out)
        (first | (go_at_call 12; (with_reducible refine HMAY.out.mono ?_); rintro e we ⟨rfl, hbe⟩; have SK1 : Hid (((convert 22 9 (.slice (some ⟨gk, 0, none⟩) 8 8)).run Tryd.prog we = .ok (.string S8) we ∧ (convert 22 9 (.slice (some ⟨xb, xo, none⟩) 8 cap)).run Tryd.prog we = .ok (.string S8) we ∧ (we.cell? ⟨gr, 0, none⟩ = some (.int .u8 (x.op : Int)) ∧ we.cell? ⟨gr, 1, none⟩ = some (.int .u8 (x.a : Int)) ∧ we.cell? ⟨gr, 2, none⟩ = some (.int .u16 (x.b : Int)) ∧ we.cell? ⟨gr, 3, none⟩ = some (.int .u32 (x.c : Int)))) ∧ gr < we.heap.size) := ⟨⟨HK2.out _ hbe, HK3.out _ hbe, cell_row (j := 0) (kept GDh.out hbe) rfl, cell_row (j := 1) (kept GDh.out hbe) rfl, cell_row (j := 2) (kept GDh.out hbe) rfl, cell_row (j := 3) (kept GDh.out hbe) rfl⟩, heap_lt (kept GDh.out hbe)⟩; have BEE := Lib.hid (HFIN.out we hbe); clear hbe))
      go_wp2_with fail
      go_ret
      exact ⟨rfl, by first | exact BEE.out | (rw [hgb]; exact BEE.out)⟩
  case true =>
    have HMI := Lib.hid hmay
    clear hmay
    go_enter Tryd.func4, Tryd.ntmps4
    go_wp2_with fail
    rw [show w.alloc (.cells #[.int .u8 (i.op : Int), .int .u8 (i.a : Int), .int .u16 (i.b : Int), .int .u32 (i.c : Int)] 27) = wa from hwa.symm]
    generalize hgb : w.heap.size = gb at *
    clear hwa
    refine (known_any wa).mono ?_
    rintro e w1 ⟨rfl, hb⟩
    have I1 := kept I0.out hb
    have B1 : Hid (Below gb w w1) := BA.out.trans (hb.mono (Nat.le_of_lt (heap_lt I0.out)))
    clear hb I0 BA
    unfold insA at I1
    have z0 := cell_row (j := 0) I1 rfl
    have z1 := cell_row (j := 1) I1 rfl
    have z2 := cell_row (j := 2) I1 rfl
    have z3 := cell_row (j := 3) I1 rfl
    have z4 := heap_lt I1
    have HI1 := Lib.hid I1
    clear I1
    go_wp2_with fail
    refine (show Calls Tryd.prog 11 #[.agg #[.int .u8 (i.op : Int), .int .u8 (i.a : Int), .int .u16 (i.b : Int), .int .u32 (i.c : Int)]] w1 _ from bytes_any i w1 HOK.out).mono ?_
    rintro e w2 ⟨rfl, hb⟩
    have HI2 := Lib.hid (kept HI1.out hb)
    have B2 : Hid (Below gb w w2) := B1.out.trans (hb.mono (Nat.le_of_lt z4))
    clear hb z0 z1 z2 z3 z4 HI1 B1
    rw [show i.bytL.toArray = #[bV i.byt 0, bV i.byt 1, bV i.byt 2, bV i.byt 3, bV i.byt 4, bV i.byt 5, bV i.byt 6, bV i.byt 7] from rfl]
    unfold bV
    obtain ⟨w3, hw3⟩ : ∃ y, y = w2.alloc (.cells #[.int .u8 ((i.byt 0 : Nat) : Int), .int .u8 ((i.byt 1 : Nat) : Int), .int .u8 ((i.byt 2 : Nat) : Int), .int .u8 ((i.byt 3 : Nat) : Int), .int .u8 ((i.byt 4 : Nat) : Int), .int .u8 ((i.byt 5 : Nat) : Int), .int .u8 ((i.byt 6 : Nat) : Int), .int .u8 ((i.byt 7 : Nat) : Int)] 32) := ⟨_, rfl⟩
    have hl2 := heap_lt HI2.out
    have B3 : Hid (Below gb w w3) := by rw [hw3]; exact B2.out.alloc (Nat.le_of_lt hl2) _
    have HI3 : Hid (w3.heap[gb]? = some (.cells #[.int .u8 (i.op : Int), .int .u8 (i.a : Int), .int .u16 (i.b : Int), .int .u32 (i.c : Int)] 27 (0, 0))) := by rw [hw3]; exact kept HI2.out (alloc_below _ _)
    have K3 : w3.heap[w2.heap.size]? = some (.cells ((List.range 8).map (bV i.byt)).toArray 32 (0, 0)) := by rw [hw3]; exact heap_alloc_new _ _
    have HX3 : SliceAt w3 a len (bV X) := HX.out.below (by rw [hgb]; exact B3.out)
    obtain ⟨a', c', w4, hap, hc4, hs4, hb4⟩ := append_bytes w3 w2.heap.size i.byt K3 a len cap X HX3 hlen
    have HC4 := Lib.hid hc4; have HS4 := Lib.hid hs4
    have B4 : Hid (Below gb w w4) := B3.out.trans (hb4.mono (Nat.le_of_lt (heap_lt HI3.out)))
    have HI4 := Lib.hid (kept HI3.out hb4)
    have hz := zero32
    unfold Z8 at hz
    have hsl := slice_all
    clear hc4 hs4 hb4 HX3 K3 hl2
    go_upto_region 4 with fail
    rw [← hw3]
    clear hw3 hz
    have HAP := Lib.hid hap
    clear hap
    go_wp2_with (at_builtin; refine wpList_append_run rfl _ _ 22 rfl _ _ _ _ rfl rfl HAP.out ?_)
    refine (read_any a' (8 + len) c' (catX i.byt X) w4 HS4.out (catX_lt (byt_lt HOK.out) HXl.out) (by omega) HC4.out).mono ?_
    rintro e w5 ⟨rfl, hb⟩
    rw [(read_cat HOK.out len X).1, (read_cat HOK.out len X).2, HMI.out]
    simp only [if_true]
    unfold Ins.val
    have B5 : Hid (Below gb w w5) := B4.out.trans (hb.mono (Nat.le_of_lt (heap_lt HI4.out)))
    have HI5 := Lib.hid (kept HI4.out hb)
    have hl5 := heap_lt HI5.out
    obtain ⟨w6, hw6⟩ : ∃ y, y = w5.alloc (.cells #[.int .u8 (i.op : Int), .int .u8 (i.a : Int), .int .u16 (i.b : Int), .int .u32 (i.c : Int)] 27) := ⟨_, rfl⟩
    have B6 : Hid (Below gb w w6) := by rw [hw6]; exact B5.out.alloc (Nat.le_of_lt hl5) _
    have HI6 : w6.heap[gb]? = some (.cells #[.int .u8 (i.op : Int), .int .u8 (i.a : Int), .int .u16 (i.b : Int), .int .u32 (i.c : Int)] 27 (0, 0)) := by rw [hw6]; exact kept HI5.out (alloc_below _ _)
    have HG6 : w6.heap[w5.heap.size]? = some (.cells #[.int .u8 (i.op : Int), .int .u8 (i.a : Int), .int .u16 (i.b : Int), .int .u32 (i.c : Int)] 27 (0, 0)) := by rw [hw6]; exact heap_alloc_new _ _
    have hgr : Hid (gb < w5.heap.size) := hl5
    clear hb B4 HI4 HS4 HC4 HAP B3 HI3 B5 HI5
    go_upto_region 5 with fail
    rw [← hw6]
    generalize w5.heap.size = gr at *
    clear hw6 hl5
    have z0 := cell_row (j := 0) HI6 rfl
    have z1 := cell_row (j := 1) HI6 rfl
    have z2 := cell_row (j := 2) HI6 rfl
    have z3 := cell_row (j := 3) HI6 rfl
    have z4 := heap_lt HI6
    have I6 := Lib.hid HI6
    have G6 := Lib.hid HG6
    clear HI6 HG6
    go_wp2_with fail
    refine (show Calls Tryd.prog 12 #[.agg #[.int .u8 (i.op : Int), .int .u8 (i.a : Int), .int .u16 (i.b : Int), .int .u32 (i.c : Int)]] w6 _ from may_any i w6 HOK.out).mono ?_
    rintro e w7 ⟨rfl, hb⟩
    rw [HMI.out]
    have B7 : Hid (Below gb w w7) := B6.out.trans (hb.mono (Nat.le_of_lt z4))
    have I7 := kept I6.out hb
    have G7 := kept G6.out hb
    clear hb z0 z1 z2 z3 z4 I6 G6 B6
    have z0 := cell_row (j := 0) I7 rfl
    have z1 := cell_row (j := 1) I7 rfl
    have z2 := cell_row (j := 2) I7 rfl
    have z3 := cell_row (j := 3) I7 rfl
    have z4 := heap_lt I7
    have c0 := cell_row (j := 0) G7 rfl
    have c1 := cell_row (j := 1) G7 rfl
    have c2 := cell_row (j := 2) G7 rfl
    have c3 := cell_row (j := 3) G7 rfl
    have c4 := heap_lt G7
    have G7h := Lib.hid G7
    have heq := fun W => equal_ins i i W
    rw [Ins.eq_refl] at heq
    unfold Ins.val at heq
    have HRD : Hid (Calls Tryd.prog 9 #[.slice a len cap] w7 (ReadPost len X w7)) := read_any a len cap X w7 (HX.out.below (by first | exact B7.out | (rw [hgb]; exact B7.out))) HXl.out (by omega) hcap
    have hzb := Nat.le_of_lt z4
    clear I7 G7
    go_wp2_with fail
    refine HRD.out.mono ?_
    rintro e w8 ⟨rfl, hb⟩
    have B8 : Hid (Below gb w w8) := B7.out.trans (hb.mono hzb)
    have GR8 := Lib.hid (kept G7h.out hb)
    clear hb z0 z1 z2 z3 z4 c0 c1 c2 c3 c4 heq HRD G7h B7 hzb
    have c0 := cell_row (j := 0) GR8.out rfl
    have c1 := cell_row (j := 1) GR8.out rfl
    have c2 := cell_row (j := 2) GR8.out rfl
    have c3 := cell_row (j := 3) GR8.out rfl
    have f0 : w8.frozen? ⟨gr, 0, none⟩ = false := frozen_of_row _ _ _ _ _ GR8.out
    have f1 : w8.frozen? ⟨gr, 1, none⟩ = false := frozen_of_row _ _ _ _ _ GR8.out
    have f2 : w8.frozen? ⟨gr, 2, none⟩ = false := frozen_of_row _ _ _ _ _ GR8.out
    have f3 : w8.frozen? ⟨gr, 3, none⟩ = false := frozen_of_row _ _ _ _ _ GR8.out
    have hl8 := heap_lt GR8.out
    have HGA : Hid (∀ vs : List Value, vs.length = 4 → (w8.setCells gr 0 vs).heap[gr]? = some (.cells vs.toArray 27 (0, 0))) := fun vs hv => setCells_all vs GR8.out hv
    have HBA : Hid (∀ vs : List Value, Below gb w (w8.setCells gr 0 vs)) := fun vs => setCells_below B8.out (by have := hgr.out; omega) _ _
    have HSA : Hid (∀ vs : List Value, SliceAt (w8.setCells gr 0 vs) a len (bV X)) := fun vs => HX.out.below (by first | exact HBA.out vs | (rw [hgb]; exact HBA.out vs))
    rcases read_cases len X with ⟨hE, hI⟩ | ⟨hE, hI, hlen, hmx⟩
    · rw [hI]
      unfold Ins.val noIns
      have t1 : (readE len X == 0) = false := by simpa using hE
      have t2 : (readE len X != 0) = true := by simpa using hE
      clear hI hE
      generalize readE len X = E2 at *
      have hz := eqz
      clear GR8 HX
      go_wp2_with fail
      go_ret
      exact ⟨rfl, by first | exact HBA.out [_, _, _, _] | (rw [hgb]; exact HBA.out [_, _, _, _])⟩
    · rw [hI, hE]
      unfold Ins.val
      have HOX := Lib.hid (insOf_ok HXl.out)
      have HBY := Lib.hid (fun j hj => byt_insOf HXl.out j hj)
      have HMX := Lib.hid hmx
      obtain ⟨xb, xo, rfl, -, -⟩ := HX.out.at (show 0 < len by omega)
      clear hI hE hmx GR8
      generalize insOf X = x at *
      obtain ⟨w9, hw9⟩ : ∃ y, y = w8.setCells gr 0 [.int .u8 (x.op : Int), .int .u8 (x.a : Int), .int .u16 (x.b : Int), .int .u32 (x.c : Int)] := ⟨_, rfl⟩
      have G9 : Hid (w9.heap[gr]? = some (.cells (insA x) 27 (0, 0))) := by rw [hw9]; exact HGA.out [_, _, _, _] rfl
      have B9 : Hid (Below gb w w9) := by rw [hw9]; exact HBA.out _
      have HW9 : Hid (w9 = (((w8.setCell ⟨gr, 0, none⟩ (.int .u8 (x.op : Int))).setCell ⟨gr, 1, none⟩ (.int .u8 (x.a : Int))).setCell ⟨gr, 2, none⟩ (.int .u16 (x.b : Int))).setCell ⟨gr, 3, none⟩ (.int .u32 (x.c : Int))) := hw9
      clear hw9 HGA HBA HSA
      go_upto_region 10 with fail
      rw [← HW9.out]
      clear HW9 c0 c1 c2 c3 f0 f1 f2 f3 hl8
      have z0 := cell_row (j := 0) G9.out rfl
      have z1 := cell_row (j := 1) G9.out rfl
      have z2 := cell_row (j := 2) G9.out rfl
      have z3 := cell_row (j := 3) G9.out rfl
      have z4 := heap_lt G9.out
      go_wp2_with fail
      refine (show Calls Tryd.prog 11 #[.agg #[.int .u8 (x.op : Int), .int .u8 (x.a : Int), .int .u16 (x.b : Int), .int .u32 (x.c : Int)]] w9 _ from bytes_any x w9 HOX.out).mono ?_
      rintro e wc ⟨rfl, hb⟩
      have BC : Hid (Below gb w wc) := B9.out.trans (hb.mono (by have := heap_lt G9.out; have := hgr.out; omega))
      have GC := Lib.hid (kept G9.out hb)
      clear hb z0 z1 z2 z3 z4 G9 B9
      rw [show x.bytL.toArray = #[bV x.byt 0, bV x.byt 1, bV x.byt 2, bV x.byt 3, bV x.byt 4, bV x.byt 5, bV x.byt 6, bV x.byt 7] from rfl]
      unfold bV
      obtain ⟨wd, hwd⟩ : ∃ y, y = wc.alloc (.cells #[.int .u8 ((x.byt 0 : Nat) : Int), .int .u8 ((x.byt 1 : Nat) : Int), .int .u8 ((x.byt 2 : Nat) : Int), .int .u8 ((x.byt 3 : Nat) : Int), .int .u8 ((x.byt 4 : Nat) : Int), .int .u8 ((x.byt 5 : Nat) : Int), .int .u8 ((x.byt 6 : Nat) : Int), .int .u8 ((x.byt 7 : Nat) : Int)] 32) := ⟨_, rfl⟩
      have BD : Hid (Below gb w wd) := by rw [hwd]; exact BC.out.alloc (by have := heap_lt GC.out; have := hgr.out; omega) _
      have GD : Hid (wd.heap[gr]? = some (.cells (insA x) 27 (0, 0))) := by rw [hwd]; exact kept GC.out (alloc_below _ _)
      have KD : Hid (wd.heap[wc.heap.size]? = some (.cells ((List.range 8).map (bV x.byt)).toArray 32 (0, 0))) := by rw [hwd]; exact heap_alloc_new _ _
      have hz := zero32
      unfold Z8 at hz
      go_upto_region 11 with fail
      rw [← hwd]
      generalize wc.heap.size = gk at *
      clear hwd hz BC GC
      have HMAY : Hid (Calls Tryd.prog 12 #[.agg #[.int .u8 (x.op : Int), .int .u8 (x.a : Int), .int .u16 (x.b : Int), .int .u32 (x.c : Int)]] wd.drew fun e w' => e = .returned (.bool true) ∧ Below wd.heap.size wd w') := by
        refine (show Calls Tryd.prog 12 #[.agg #[.int .u8 (x.op : Int), .int .u8 (x.a : Int), .int .u16 (x.b : Int), .int .u32 (x.c : Int)]] wd.drew _ from may_any x wd.drew HOX.out).mono ?_
        rintro e w' ⟨he, hb⟩
        exact ⟨by rw [he, HMX.out], ⟨hb.os, hb.tape, hb.output, hb.size, hb.block⟩⟩
      have HK2 : Hid (∀ V, Below wd.heap.size wd V → (convert 22 9 (.slice (some ⟨gk, 0, none⟩) 8 8)).run Tryd.prog V = .ok (.string (strB X 8)) V) := fun V hV => by
        rw [← strB_congr (fun j hj => HBY.out j hj)]
        exact str_at 8 (fun j hj => by rw [Nat.zero_add]; exact cell_row (kept KD.out hV) (by simp [hj]))
      have HK3 : Hid (∀ V, Below wd.heap.size wd V → (convert 22 9 (.slice (some ⟨xb, xo, none⟩) 8 cap)).run Tryd.prog V = .ok (.string (strB X 8)) V) := fun V hV => by
        have hBV : Below gb w V := BD.out.trans (hV.mono (by have := heap_lt GD.out; have := hgr.out; omega))
        obtain ⟨b', o', e, hlt, hc⟩ := (HX.out.below (w' := V) (by first | exact hBV | (rw [hgb]; exact hBV))).at (show 0 < len by omega)
        cases e
        exact str_at cap (fun j hj => hc j (by omega))
      have hsl := slice_all
      have q8 : (8 : Int) ≤ (cap : Int) := by omega
      have HFIN : Hid (∀ V, Below wd.heap.size wd V → Below gb w V) := fun V hV => BD.out.trans (hV.mono (by have := heap_lt GD.out; have := hgr.out; omega))
      have GDh := GD
      clear HBY HX KD HOX HMX BD GD
      generalize strB X 8 = S8 at *
      have SK0 : Hid (((convert 22 9 (.slice (some ⟨gk, 0, none⟩) 8 8)).run Tryd.prog wd.drew = .ok (.string S8) wd.drew ∧ (convert 22 9 (.slice (some ⟨xb, xo, none⟩) 8 cap)).run Tryd.prog wd.drew = .ok (.string S8) wd.drew ∧ (wd.drew.cell? ⟨gr, 0, none⟩ = some (.int .u8 (x.op : Int)) ∧ wd.drew.cell? ⟨gr, 1, none⟩ = some (.int .u8 (x.a : Int)) ∧ wd.drew.cell? ⟨gr, 2, none⟩ = some (.int .u16 (x.b : Int)) ∧ wd.drew.cell? ⟨gr, 3, none⟩ = some (.int .u32 (x.c : Int)))) ∧ gr < wd.drew.heap.size) := ⟨⟨HK2.out _ ⟨rfl, rfl, rfl, Nat.le_refl _, fun _ _ => rfl⟩, HK3.out _ ⟨rfl, rfl, rfl, Nat.le_refl _, fun _ _ => rfl⟩, cell_row (j := 0) GDh.out rfl, cell_row (j := 1) GDh.out rfl, cell_row (j := 2) GDh.out rfl, cell_row (j := 3) GDh.out rfl⟩, heap_lt GDh.out⟩
      go_region_held3 (fun V => ((convert 22 9 (.slice (some ⟨gk, 0, none⟩) 8 8)).run Tryd.prog V = .ok (.string S8) V ∧ (convert 22 9 (.slice (some ⟨xb, xo, none⟩) 8 cap)).run Tryd.prog V = .ok (.string S8) V ∧ (V.cell? ⟨gr, 0, none⟩ = some (.int .u8 (x.op : Int)) ∧ V.cell? ⟨gr, 1, none⟩ = some (.int .u8 (x.a : Int)) ∧ V.cell? ⟨gr, 2, none⟩ = some (.int .u16 (x.b : Int)) ∧ V.cell? ⟨gr, 3, none⟩ = some (.int .u32 (x.c : Int)))) ∧ gr < V.heap.size)
        (first | exact SK1.out | exact SK0.out)
        (first | (go_at_call 12; (with_reducible refine HMAY.out.mono ?_); rintro e we ⟨rfl, hbe⟩; have SK1 : Hid (((convert 22 9 (.slice (some ⟨gk, 0, none⟩) 8 8)).run Tryd.prog we = .ok (.string S8) we ∧ (convert 22 9 (.slice (some ⟨xb, xo, none⟩) 8 cap)).run Tryd.prog we = .ok (.string S8) we ∧ (we.cell? ⟨gr, 0, none⟩ = some (.int .u8 (x.op : Int)) ∧ we.cell? ⟨gr, 1, none⟩ = some (.int .u8 (x.a : Int)) ∧ we.cell? ⟨gr, 2, none⟩ = some (.int .u16 (x.b : Int)) ∧ we.cell? ⟨gr, 3, none⟩ = some (.int .u32 (x.c : Int)))) ∧ gr < we.heap.size) := ⟨⟨HK2.out _ hbe, HK3.out _ hbe, cell_row (j := 0) (kept GDh.out hbe) rfl, cell_row (j := 1) (kept GDh.out hbe) rfl, cell_row (j := 2) (kept GDh.out hbe) rfl, cell_row (j := 3) (kept GDh.out hbe) rfl⟩, heap_lt (kept GDh.out hbe)⟩; have BEE := Lib.hid (HFIN.out we hbe); clear hbe))
      go_wp2_with fail
      go_ret
      exact ⟨rfl, by first | exact BEE.out | (rw [hgb]; exact BEE.out)⟩
end Go.Proofs.YtobagnabkphegaaDoor
