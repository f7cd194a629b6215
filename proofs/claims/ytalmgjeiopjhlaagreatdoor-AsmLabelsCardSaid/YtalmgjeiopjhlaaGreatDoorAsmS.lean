/- SameCode, Same. -/
import Derived.Test.YtalmgjeiopjhlaaGreatDoorAsmCD
import Derived.BigQuiet
namespace Go.Proofs.YtalmgjeiopjhlaaGreatDoor
open Go.Shelf Go.RowKit
set_option linter.unusedVariables false
set_option linter.unusedSimpArgs false
theorem eq_self (i : Ins) (w : World) : (Op.equalIn 10000 32 (.agg #[.int .u8 (i.op : Int), .int .u8 (i.a : Int), .int .u16 (i.b : Int), .int .u32 (i.c : Int)]) (.agg #[.int .u8 (i.op : Int), .int .u8 (i.a : Int), .int .u16 (i.b : Int), .int .u32 (i.c : Int)])).run Tryz.prog w = .ok true w := by
  rw [← Ins.eq_refl i]; exact equal_ins i i w
theorem eq_self9 (i : Ins) (w : World) : (Op.equalIn 9999 32 (.agg #[.int .u8 (i.op : Int), .int .u8 (i.a : Int), .int .u16 (i.b : Int), .int .u32 (i.c : Int)]) (.agg #[.int .u8 (i.op : Int), .int .u8 (i.a : Int), .int .u16 (i.b : Int), .int .u32 (i.c : Int)])).run Tryz.prog w = .ok true w := by
  have hS : Tryz.prog.underlying 32 = some (.struct (Tryz.prog.fieldsOf 32)) := by kernel_rfl
  have hp : Tryz.prog.stoodInHeld 32 = false := by kernel_rfl
  rw [show (9999 : Nat) = 9998 + 1 from rfl, run_equalIn_agg w 9998 32 _ _ hS hp]
  simp only [Program.fieldsOf, Tryz.underlying32]
  go_simp
theorem part_lab (a b c d e f : Value) (w : World) : (part 9 #[a, b, c, d, e, f] 0).run Tryz.prog w = .ok a w := by kernel_rfl
theorem part_tgt (a b c d e f : Value) (w : World) : (part 9 #[a, b, c, d, e, f] 5).run Tryz.prog w = .ok f w := by kernel_rfl
theorem part_ins (a b c d e f : Value) (w : World) : (part 32 #[a, b, c, d, e, f] 1).run Tryz.prog w = .ok (.agg #[b, c, d, e]) w := by kernel_rfl
set_option maxRecDepth 100000 in
theorem eq_selfA (x : AL) (w : World) : (Op.equalIn 10000 34 (.agg #[.string x.lab, .int .u8 (x.i.op : Int), .int .u8 (x.i.a : Int), .int .u16 (x.i.b : Int), .int .u32 (x.i.c : Int), .string x.tgt]) (.agg #[.string x.lab, .int .u8 (x.i.op : Int), .int .u8 (x.i.a : Int), .int .u16 (x.i.b : Int), .int .u32 (x.i.c : Int), .string x.tgt])).run Tryz.prog w = .ok true w := by
  have hS : Tryz.prog.underlying 34 = some (.struct (Tryz.prog.fieldsOf 34)) := by kernel_rfl
  have hp : Tryz.prog.stoodInHeld 34 = false := by kernel_rfl
  rw [show (10000 : Nat) = 9999 + 1 from rfl, run_equalIn_agg w 9999 34 _ _ hS hp]
  clear hS hp
  have s1 : ∀ (y : ByteArray) (w : World), (Op.equalIn 9999 9 (.string y) (.string y)).run Tryz.prog w = .ok true w := fun y w => by
    rw [show (9999 : Nat) = 9998 + 1 from rfl, run_equalIn_string w 9998 9 y y Tryz.underlying9]; simp
  simp only [Program.fieldsOf, Tryz.underlying34, Op.eqFields, part_lab, part_tgt, part_ins, Sem.run_bind, Result.andThen_ok, s1, eq_self9, Sem.run_pure, Bool.not_true, Bool.false_eq_true, if_false, ne_eq, String.reduceEq, not_false_eq_true, if_true]
set_option maxRecDepth 100000 in
theorem scode_true (ls : List Ins) (a b : Option Addr) (c d : Nat) (w : World) (ha : InsAt w a ls) (hb : InsAt w b ls) (hm : ls.length ≤ 9223372036854775807) : Calls Tryz.prog 14 #[.slice a ls.length c, .slice b ls.length d] w fun e w' => e = .returned (.bool true) ∧ Below w.heap.size w w' := by
  have HA := Lib.hid ha; have HB := Lib.hid hb
  clear ha hb
  generalize hn : ls.length = n at *
  go_enter Tryz.func14, Tryz.ntmps14
  go_wp2_with fail
  go_loopw [5] (fun i wr => ∃ k : Nat, k ≤ n ∧ i = .int .i64 (k : Int) ∧ Hid (Below w.heap.size w wr)) (fun i _ => n - (intOf i).toNat)
  case atStart => exact ⟨0, Nat.zero_le _, rfl, Below.refl _ _⟩
  case round =>
    obtain ⟨k, hk, rfl, BB⟩ := hrel
    rcases Nat.lt_or_ge k n with hk2 | hk2
    case inr =>
      obtain rfl : k = n := by omega
      have t2 : decide ((k : Int) < (k : Int)) = false := by simp
      go_wp2_with fail
      go_ret
      exact ⟨rfl, BB.out⟩
    have t2 : decide ((k : Int) < (n : Int)) = true := decide_eq_true (by omega)
    obtain ⟨g, off, rfl, hb, hc⟩ := HA.out.at (by omega)
    obtain ⟨g', off', rfl, hb', hc'⟩ := HB.out.at (by omega)
    have c0 : wr.cell? ⟨g, off + k * 4, none⟩ = some (.int .u8 ((ls.getD k noIns).op : Int)) := (BB.out.cell hb).trans (hc k (by omega) 0 (by omega))
    have c1 : wr.cell? ⟨g, off + k * 4 + 1, none⟩ = some (.int .u8 ((ls.getD k noIns).a : Int)) := (BB.out.cell hb).trans (hc k (by omega) 1 (by omega))
    have c2 : wr.cell? ⟨g, off + k * 4 + 2, none⟩ = some (.int .u16 ((ls.getD k noIns).b : Int)) := (BB.out.cell hb).trans (hc k (by omega) 2 (by omega))
    have c3 : wr.cell? ⟨g, off + k * 4 + 3, none⟩ = some (.int .u32 ((ls.getD k noIns).c : Int)) := (BB.out.cell hb).trans (hc k (by omega) 3 (by omega))
    have d0 : wr.cell? ⟨g', off' + k * 4, none⟩ = some (.int .u8 ((ls.getD k noIns).op : Int)) := (BB.out.cell hb').trans (hc' k (by omega) 0 (by omega))
    have d1 : wr.cell? ⟨g', off' + k * 4 + 1, none⟩ = some (.int .u8 ((ls.getD k noIns).a : Int)) := (BB.out.cell hb').trans (hc' k (by omega) 1 (by omega))
    have d2 : wr.cell? ⟨g', off' + k * 4 + 2, none⟩ = some (.int .u16 ((ls.getD k noIns).b : Int)) := (BB.out.cell hb').trans (hc' k (by omega) 2 (by omega))
    have d3 : wr.cell? ⟨g', off' + k * 4 + 3, none⟩ = some (.int .u32 ((ls.getD k noIns).c : Int)) := (BB.out.cell hb').trans (hc' k (by omega) 3 (by omega))
    have he := eq_self (ls.getD k noIns)
    generalize ls.getD k noIns = i at *
    clear hc hc' HA HB
    obtain ⟨iop, ia, ib, ic⟩ := i
    simp only at c0 c1 c2 c3 d0 d1 d2 d3 he
    go_wp2_with fail
    go_quiet (fail)
    have B2 : Hid (Below w.heap.size w (wr.drewN nq)) := ⟨BB.out.os, BB.out.tape, BB.out.output, BB.out.size, BB.out.block⟩
    generalize wr.drewN nq = w2 at *
    go_wp2_with fail
    refine ⟨⟨k + 1, by omega, by go_num, B2⟩, ?_⟩
    simp [intOf]; omega
set_option maxRecDepth 100000 in
theorem same_true (ls : List AL) (a b : Option Addr) (c d : Nat) (w : World) (ha : AlsAt w a ls) (hb : AlsAt w b ls) (hm : ls.length ≤ 9223372036854775807) : Calls Tryz.prog 19 #[.slice a ls.length c, .slice b ls.length d] w fun e w' => e = .returned (.bool true) ∧ Below w.heap.size w w' := by
  have HA := Lib.hid ha; have HB := Lib.hid hb
  clear ha hb
  generalize hn : ls.length = n at *
  go_enter Tryz.func19, Tryz.ntmps19
  go_wp2_with fail
  go_loopw [5] (fun i wr => ∃ k : Nat, k ≤ n ∧ i = .int .i64 (k : Int) ∧ Hid (Below w.heap.size w wr)) (fun i _ => n - (intOf i).toNat)
  case atStart => exact ⟨0, Nat.zero_le _, rfl, Below.refl _ _⟩
  case round =>
    obtain ⟨k, hk, rfl, BB⟩ := hrel
    rcases Nat.lt_or_ge k n with hk2 | hk2
    case inr =>
      obtain rfl : k = n := by omega
      have t2 : decide ((k : Int) < (k : Int)) = false := by simp
      go_wp2_with fail
      go_ret
      exact ⟨rfl, BB.out⟩
    have t2 : decide ((k : Int) < (n : Int)) = true := decide_eq_true (by omega)
    obtain ⟨g, off, rfl, hb, hc⟩ := HA.out.at (by omega)
    obtain ⟨g', off', rfl, hb', hc'⟩ := HB.out.at (by omega)
    have c0 : wr.cell? ⟨g, off + k * 6, none⟩ = some (.string (ls.getD k al0).lab) := (BB.out.cell hb).trans (hc k (by omega) 0 (by omega))
    have c1 : wr.cell? ⟨g, off + k * 6 + 1, none⟩ = some (.int .u8 ((ls.getD k al0).i.op : Int)) := (BB.out.cell hb).trans (hc k (by omega) 1 (by omega))
    have c2 : wr.cell? ⟨g, off + k * 6 + 2, none⟩ = some (.int .u8 ((ls.getD k al0).i.a : Int)) := (BB.out.cell hb).trans (hc k (by omega) 2 (by omega))
    have c3 : wr.cell? ⟨g, off + k * 6 + 3, none⟩ = some (.int .u16 ((ls.getD k al0).i.b : Int)) := (BB.out.cell hb).trans (hc k (by omega) 3 (by omega))
    have c4 : wr.cell? ⟨g, off + k * 6 + 4, none⟩ = some (.int .u32 ((ls.getD k al0).i.c : Int)) := (BB.out.cell hb).trans (hc k (by omega) 4 (by omega))
    have c5 : wr.cell? ⟨g, off + k * 6 + 5, none⟩ = some (.string (ls.getD k al0).tgt) := (BB.out.cell hb).trans (hc k (by omega) 5 (by omega))
    have d0 : wr.cell? ⟨g', off' + k * 6, none⟩ = some (.string (ls.getD k al0).lab) := (BB.out.cell hb').trans (hc' k (by omega) 0 (by omega))
    have d1 : wr.cell? ⟨g', off' + k * 6 + 1, none⟩ = some (.int .u8 ((ls.getD k al0).i.op : Int)) := (BB.out.cell hb').trans (hc' k (by omega) 1 (by omega))
    have d2 : wr.cell? ⟨g', off' + k * 6 + 2, none⟩ = some (.int .u8 ((ls.getD k al0).i.a : Int)) := (BB.out.cell hb').trans (hc' k (by omega) 2 (by omega))
    have d3 : wr.cell? ⟨g', off' + k * 6 + 3, none⟩ = some (.int .u16 ((ls.getD k al0).i.b : Int)) := (BB.out.cell hb').trans (hc' k (by omega) 3 (by omega))
    have d4 : wr.cell? ⟨g', off' + k * 6 + 4, none⟩ = some (.int .u32 ((ls.getD k al0).i.c : Int)) := (BB.out.cell hb').trans (hc' k (by omega) 4 (by omega))
    have d5 : wr.cell? ⟨g', off' + k * 6 + 5, none⟩ = some (.string (ls.getD k al0).tgt) := (BB.out.cell hb').trans (hc' k (by omega) 5 (by omega))
    have he := eq_selfA (ls.getD k al0)
    generalize ls.getD k al0 = x at *
    clear hc hc' HA HB
    obtain ⟨xl, ⟨iop, ia, ib, ic⟩, xt⟩ := x
    simp only at c0 c1 c2 c3 c4 c5 d0 d1 d2 d3 d4 d5 he
    go_wp2_with fail
    go_quiet (fail)
    have B2 : Hid (Below w.heap.size w (wr.drewN nq)) := ⟨BB.out.os, BB.out.tape, BB.out.output, BB.out.size, BB.out.block⟩
    generalize wr.drewN nq = w2 at *
    go_wp2_with fail
    refine ⟨⟨k + 1, by omega, by go_num, B2⟩, ?_⟩
    simp [intOf]; omega
end Go.Proofs.YtalmgjeiopjhlaaGreatDoor
