/- A field as it lies; its small calls. -/
import Derived.Test.YtdelcndaogjngaaRow
import Derived.Test.YtdelcndaogjngaaCls
import Derived.Laws.Small
import Derived.RegionTactic
import Derived.BigRegion
import Derived.IntWalk
namespace Go.Proofs.Ytdelcndaogjngaa
open Go.RowKit
set_option linter.unusedVariables false
def uV (f : Nat → Nat) (i : Nat) : Value := .int .u32 ((f i : Nat) : Int)
def hV (f : Nat → Bool) (i : Nat) : Value := .bool (f i)
/-- A field: its blocks (all those that a call may turn lie from lo to hi), and what it has. -/
structure FS where
  (lo hi g bs bi bo bp bh : Nat)
  (vs vi vo vp vh : Value)
  (nI nS rd : Nat)
  wr : Int
  (safe ins outs put : Nat → Nat)
  has : Nat → Bool
def FS.row (f : FS) : Array Value := #[.int .i64 (f.nI : Int), f.vs, .int .u32 (f.rd : Int), .int .i64 f.wr, f.vi, f.vo, f.vp, f.vh]
structure FS.Ok (f : FS) : Prop where
  nI : f.nI ≤ 16
  nS : f.nS ≤ 16
  rd : f.rd < 256
  wr : 0 ≤ f.wr ∧ f.wr < 8
  safe : ∀ i, f.safe i < 4294967296
  ins : ∀ i, f.ins i < 4294967296
  outs : ∀ i, f.outs i < 4294967296
  put : ∀ i, f.put i < 4294967296
  g : f.lo ≤ f.g ∧ f.g < f.hi
  bi : 0 < f.nI → f.lo ≤ f.bi ∧ f.bi < f.hi ∧ f.bi ≠ f.g
  bS : 0 < f.nS → (f.lo ≤ f.bo ∧ f.bo < f.hi ∧ f.bo ≠ f.g) ∧ (f.lo ≤ f.bp ∧ f.bp < f.hi ∧ f.bp ≠ f.g) ∧ (f.lo ≤ f.bh ∧ f.bh < f.hi ∧ f.bh ≠ f.g) ∧ f.bo ≠ f.bp ∧ f.bo ≠ f.bh ∧ f.bp ≠ f.bh ∧ f.bs ≠ f.bo ∧ f.bs ≠ f.bp ∧ f.bs ≠ f.bh ∧ f.bs ≠ f.g
  bIS : 0 < f.nI → 0 < f.nS → f.bi ≠ f.bo ∧ f.bi ≠ f.bp ∧ f.bi ≠ f.bh ∧ f.bi ≠ f.bs
structure FieldAt (w : World) (f : FS) : Prop where
  obj : w.heap[f.g]? = some (.cells f.row 56 (0, 0))
  ok : f.Ok
  safe : SlAt w f.vs f.bs 23 f.nS (uV f.safe)
  ins : SlAt w f.vi f.bi 23 f.nI (uV f.ins)
  outs : SlAt w f.vo f.bo 23 f.nS (uV f.outs)
  put : SlAt w f.vp f.bp 23 f.nS (uV f.put)
  has : SlAt w f.vh f.bh 4 f.nS (hV f.has)
  hi : f.hi ≤ w.heap.size
/-- The field's own blocks. -/
def FS.M (f : FS) (b : Nat) : Prop := f.lo ≤ b ∧ b < f.hi
theorem FieldAt.cell {w : World} {f : FS} (h : FieldAt w f) (i : Nat) (v : Value) (hv : f.row[i]? = some v) : w.cell? ⟨f.g, i, none⟩ = some v := cell_row h.obj hv
/-- It lies there still, where none of its blocks has been turned. -/
theorem FieldAt.only {w w' : World} {f : FS} {M : Nat → Prop} (h : FieldAt w f) (ho : Only M w w') (hM : ∀ b, f.M b → ¬ M b) (hs : 0 < f.nS → ¬ M f.bs) : FieldAt w' f :=
  ⟨(ho.block _ (heap_lt h.obj) (hM _ h.ok.g)).trans h.obj, h.ok, h.safe.only ho hs, h.ins.only ho (fun hp => hM _ ⟨(h.ok.bi hp).1, (h.ok.bi hp).2.1⟩), h.outs.only ho (fun hp => hM _ ⟨(h.ok.bS hp).1.1, (h.ok.bS hp).1.2.1⟩),
    h.put.only ho (fun hp => hM _ ⟨(h.ok.bS hp).2.1.1, (h.ok.bS hp).2.1.2.1⟩), h.has.only ho (fun hp => hM _ ⟨(h.ok.bS hp).2.2.1.1, (h.ok.bS hp).2.2.1.2.1⟩), Nat.le_trans h.hi ho.size⟩
theorem FieldAt.below {w w' : World} {f : FS} (h : FieldAt w f) (hb : Below w.heap.size w w') : FieldAt w' f := h.only (M := fun _ => False) (Only.of_below _ hb) (fun _ _ h => h) (fun _ h => h)
theorem latch_nil (a : Option Addr) (n c : Nat) (w : World) : Calls Try.prog 11 #[.pointer none, .slice a n c] w fun e w' => e = .returned (.int .i64 1) ∧ w = w' := by
  go_enter Try.func11, Try.ntmps11
  go_wp2_with fail
  go_ret
  exact ⟨rfl, rfl⟩
theorem in_nil (p n : Int) (w : World) : Calls Try.prog 13 #[.pointer none, .int .i64 p, .int .i64 n] w fun e w' => e = .returned (.tuple #[.int .u32 0, .int .i64 1]) ∧ w = w' := by
  go_enter Try.func13, Try.ntmps13
  go_wp2_with fail
  go_ret2
  exact ⟨rfl, rfl⟩
theorem out_nil (p n : Int) (x : Int) (w : World) : Calls Try.prog 15 #[.pointer none, .int .i64 p, .int .i64 n, .int .u32 x] w fun e w' => e = .returned (.int .i64 1) ∧ w = w' := by
  go_enter Try.func15, Try.ntmps15
  go_wp2_with fail
  go_ret
  exact ⟨rfl, rfl⟩
theorem commit_nil (b : Bool) (w : World) : Calls Try.prog 17 #[.pointer none, .bool b] w fun e w' => e = .returned (.tuple #[]) ∧ w = w' := by
  go_enter Try.func17, Try.ntmps17
  go_wp2_with fail
  exact bodyPost_ret (results_none rfl _ _ _) rfl ⟨rfl, rfl⟩
theorem ins_nil (w : World) : Calls Try.prog 21 #[.pointer none] w fun e w' => e = .returned (.slice none 0 0) ∧ w = w' := by
  go_enter Try.func21, Try.ntmps21
  go_wp2_with fail
  go_ret
  exact ⟨rfl, rfl⟩
theorem outs_nil (w : World) : Calls Try.prog 22 #[.pointer none] w fun e w' => e = .returned (.slice none 0 0) ∧ w = w' := by
  go_enter Try.func22, Try.ntmps22
  go_wp2_with fail
  go_ret
  exact ⟨rfl, rfl⟩
theorem copy_nil (w : World) : Calls Try.prog 19 #[.pointer none] w fun e w' => e = .returned (.pointer none) ∧ w = w' := by
  go_enter Try.func19, Try.ntmps19
  go_wp2_with fail
  go_ret
  exact ⟨rfl, rfl⟩
end Go.Proofs.Ytdelcndaogjngaa
