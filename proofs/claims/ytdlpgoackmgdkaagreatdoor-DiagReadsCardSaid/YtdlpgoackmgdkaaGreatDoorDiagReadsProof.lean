/-
  What is proved: for every input that can be read, the law DiagReads returns true, and each argument reads afterwards as it read before ('Rows.DiagReadsSaid'). No further condition.
  The frame is written by a program of ours (genshell.py) in the make of the kit's own shell; the walk is DiS.dreads_walk.
-/
import Derived.Test.YtdlpgoackmgdkaaGreatDoorRows
import Derived.Test.YtdlpgoackmgdkaaGreatDoorDiS
import Derived.WalkKit
import Derived.ProofKit
import Derived.OpenShut
import Derived.ShutString
import Derived.ChangeOld
import Derived.Below
import Derived.Handed
import Derived.HandedShaped
import Derived.Test.YtdlpgoackmgdkaaGreatDoorArLd
import Derived.Test.YtdlpgoackmgdkaaGreatDoorTie
import Derived.Test.YtdlpgoackmgdkaaGreatDoorCards
import Derived.SevenTiedAt
namespace Go.Proofs.YtdlpgoackmgdkaaGreatDoor.diagReads
open Go.ChangeShapes Go.WideShapes Go.ChangeAt Go.RowKit
open Go.ChangeMaps (open_string shut_string)
set_option linter.unusedVariables false

theorem own : ownKnob Tryz.prog.godebug = none := by kernel_rfl
theorem laidOut : laidOutB Tryz.prog = true := by kernel_rfl

theorem walk (v0 : Value) (a1 : Option Addr) (len1 cap1 : Nat) (w : World) (w0 : ReadsC w 44 v0.cells.toList ∧ Value.okWide Tryz.prog w .any 0 44 v0) (w1 : ReadsC w 39 [.slice a1 len1 cap1]) (hlib : LibW w) :
    Calls Tryz.prog 7 #[v0, .slice a1 len1 cap1] w fun e w' => e = .returned (.bool true) ∧ Below w.heap.size w w' :=
  dreads_walk v0 a1 len1 cap1 w w0 w1 hlib

set_option maxRecDepth 100000 in
theorem contract {H : Type} (enc : TypeId × Value → H) (W : World) (base : Nat) (args : Array Value) (ds gs : List (DataW H)) (before : List MemPlace)
    (hval0 : ∀ (j : Nat) t v, Tryz.f7.params[j]? = some t → args[j]? = some v → Value.okWide Tryz.prog W .any base t v)
    (hW : DataW.Whole enc Tryz.prog Tryz.f7.params.toList Rows.diagReadsSpec.vars false W args.toList ds gs before) (hlib : LibW W) :
    Calls Tryz.prog 7 args W fun e W' => ∃ v, e = .returned v ∧ Rows.diagReadsSpec.post enc Tryz.prog Tryz.f7 false true false false W args v W' := by
  have hval : ∀ (j : Nat) t v, Tryz.f7.params[j]? = some t → args[j]? = some v → Value.okWide Tryz.prog W .any base t v := hval0
  have hW' := hW
  obtain ⟨p, q, hA0, hV, rfl, hfz, hnd⟩ := hW
  have hA : DataW.TrodAll enc Tryz.prog W 0 (fun _ => true) true Tryz.f7.params.toList args.toList ds p := hA0
  rw [Tryz.params7] at hA hval
  obtain ⟨v0, vs0, d0, ds0, p0, q0, hargs, rfl, rfl, h0, r0⟩ := trodAll_cons hA
  obtain ⟨v1, vs1, d1, ds1, p1, q1, rfl, rfl, rfl, h1, r1⟩ := trodAll_cons r0
  obtain ⟨rfl, rfl, rfl⟩ := trodAll_nil r1
  obtain rfl : args = #[v0, v1] := by cases args; simp_all
  obtain ⟨rfl, rfl⟩ := trodVars_none hV
  have k0 := h0
  have lt0 : ∀ x ∈ p0, x.block < W.heap.size := by obtain ⟨m, hm⟩ := k0; exact DataW.trod_lt m _ _ _ hm
  have w0 : ReadsC W 44 v0.cells.toList ∧ Value.okWide Tryz.prog W .any 0 44 v0 := by refine ⟨?_, Value.okWide_any_base (hval 0 44 v0 rfl rfl)⟩; obtain ⟨fuel, hf⟩ := h0; exact ⟨H, enc, fuel, _, hf⟩
  obtain ⟨a1, len1, cap1, rfl⟩ := okWide_slice Tryz.underlying39 (hval 1 39 v1 rfl rfl)
  have k1 := h1
  have lt1 : ∀ x ∈ p1, x.block < W.heap.size := by obtain ⟨m, hm⟩ := k1; exact DataW.trod_lt m _ _ _ hm
  have w1 : ReadsC W 39 [.slice a1 len1 cap1] := by obtain ⟨fuel, hf⟩ := h1; exact ⟨H, enc, fuel, _, by simpa [Value.cells] using hf⟩
  clear hA0 hval0
  refine (walk v0 a1 len1 cap1 W w0 w1 hlib).mono fun e W' ⟨he, bel⟩ => ?_
  subst he
  exact ⟨_, rfl, _, _, _, [], _, [], hW', trodAll_mk1 (shut_bool Tryz.underlying4 _), (trodAll_cons_mk (Below.trod laidOut (by kernel_rfl) (of_decide_eq_true (by kernel_rfl)) k0 bel lt0) (trodAll_cons_mk (Below.trod laidOut (by kernel_rfl) (of_decide_eq_true (by kernel_rfl)) k1 bel lt1) trodAll_mk0)), rfl, bel.frame _, fun h => by cases h⟩
set_option maxRecDepth 100000 in
theorem lifted (os : Os) (started : os.Started) (H : Type) (enc : TypeId × Value → H) :
    ReturnsInHanded {} Tryz.checked os 7 .any (fun w args => (Rows.diagReadsSpec.pre enc Tryz.prog Tryz.f7 Rows.diagReadsRow.domain false w args ∧ laidMetH Tryz.prog Rows.diagReadsRow.laid w) ∧ sizedMet enc Tryz.prog Tryz.f7 (OpenSpec.ofChange Rows.diagReadsSpec) false w args) (Rows.diagReadsSpec.post enc Tryz.prog Tryz.f7 false true false false) := by
  refine returnsInHanded_of_calls own started (by kernel_rfl)
    (ChangeSpec.witness_shaped (enc := enc) (C := Tryz.checked) (os := os) (X := fun w _ => laidMetH Tryz.prog Rows.diagReadsRow.laid w) false (laidW os) #[.agg #[.slice none 0 0, .int .u32 0, .int .i64 0, .int .i64 0], .slice none 0 0] 8 rfl (laidW_shaped os _) (by kernel_rfl) (by kernel_rfl) (by kernel_rfl) (laidW_met os _)) ?_
  intro W0 tape i _ hsh _ hok hpre _
  obtain ⟨_, _, _, fn', hfn', _, _, _, _, hval0⟩ := hok
  obtain rfl : Tryz.f7 = fn' := Option.some.inj (Tryz.func7.symm.trans hfn')
  obtain ⟨⟨⟨ds, gs, before, hw0, hcnd⟩, hlaid⟩, hsized⟩ := hpre
  refine (contract enc (W0.forCall tape i) W0.heap.size i.args ds gs before hval0 (hw0.of_heap (by rfl)) (lib_of (hlaid.of_heap (by rfl)) hsh)).mono ?_
  rintro e W' ⟨v, rfl, hp⟩
  exact ChangeSpec.post_blind hp

theorem over : Rows.diagReadsRow.holds Tryz.pinned (OpenSpec.ofChange Rows.diagReadsSpec) :=
  OpenClaim.holds_of_wide 7 Tryz.f7 rfl rfl rfl rfl rfl rfl rfl ⟨rfl, rfl, rfl, rfl, rfl⟩ rfl rfl rfl rfl rfl (by kernel_rfl) Tryz.func7 (by kernel_rfl)
    (of_decide_eq_true (by kernel_rfl)) (by unfold Func.isWrapper; first | (rw [if_pos (by decide +kernel)]; kernel_rfl) | (rw [if_neg (by decide +kernel)]; exact ⟨rfl, rfl⟩))
    (fun os started H enc _ => lifted os started H enc)

/-- THE STATEMENT: the row's card, its tables tied to the program's text. -/
theorem proved : Rows.DiagReadsCardSaid :=
  Claim7.holds_tied_plain_at .later [] [.data, .data, .data, .data, .sentinel, .sentinel, .pinned] true (true, "61499fe426948a25313ac4fa1b51242872b78b0cc831f6a92536d4c303604bf6") true
    over (fun _ h => by cases h) (by kernel_rfl) (fun _ h => by cases h) diagReads_row_tie rfl ⟨rfl, rfl⟩ (by kernel_rfl) rfl
    (fun f fn hf hfn => by
      obtain rfl : f = 7 := Option.some.inj ((show Tryz.prog.funcNamed Rows.diagReadsRow.func = some 7 by kernel_rfl).symm.trans hf) |>.symm
      obtain rfl : fn = Tryz.f7 := (Option.some.inj (Tryz.func7.symm.trans hfn)).symm
      exact ⟨by kernel_rfl, fun j t ht => by
        rw [Tryz.params7] at ht
        have hm := Array.mem_of_getElem? ht
        simp at hm
        rcases hm with rfl | rfl
        all_goals exact (show Tryz.prog.wantsStandIn _ = false by kernel_rfl)⟩)
    (by kernel_rfl)
#print axioms proved
end Go.Proofs.YtdlpgoackmgdkaaGreatDoor.diagReads
