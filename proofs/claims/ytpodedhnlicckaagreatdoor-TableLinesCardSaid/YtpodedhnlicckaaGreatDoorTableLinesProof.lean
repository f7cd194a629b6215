/-
  What is proved: for every input that can be read, the law TableLines returns true, and each argument reads afterwards as it read before ('Rows.TableLinesSaid'). No further condition.
  The frame is written by a program of ours (genshell.py) in the make of the kit's own shell; the walk is TbWl.lines_walk.
-/
import Derived.Test.YtpodedhnlicckaaGreatDoorRows
import Derived.Test.YtpodedhnlicckaaGreatDoorTbWl
import Derived.WalkKit
import Derived.ProofKit
import Derived.OpenShut
import Derived.ShutString
import Derived.ChangeOld
import Derived.SizedLaws
import Derived.Below
import Derived.Handed
import Derived.HandedShaped
import Derived.Test.YtpodedhnlicckaaGreatDoorTbLd
import Derived.Test.YtpodedhnlicckaaGreatDoorTie
import Derived.Test.YtpodedhnlicckaaGreatDoorCards
import Derived.SevenTiedAt
namespace Go.Proofs.YtpodedhnlicckaaGreatDoor.tableLines
open Go.ChangeShapes Go.WideShapes Go.ChangeAt Go.RowKit
open Go.ChangeMaps (open_string shut_string)
set_option linter.unusedVariables false

theorem own : ownKnob Tryz.prog.godebug = none := by kernel_rfl
theorem laidOut : laidOutB Tryz.prog = true := by kernel_rfl

theorem walk (a0 : ByteArray) (a1 : ByteArray) (w : World) (w0 : a0.size ≤ maxLen) (z0 : a0.size < 140737488355328) (w1 : a1.size ≤ maxLen) (z1 : a1.size < 140737488355328) (hlib : LibW w) :
    Calls Tryz.prog 8 #[.string a0, .string a1] w fun e w' => e = .returned (.bool true) ∧ Below w.heap.size w w' :=
  lines_walk a0 a1 w w0 z0 w1 z1 hlib

set_option maxRecDepth 100000 in
theorem contract {H : Type} (enc : TypeId × Value → H) (W : World) (base : Nat) (args : Array Value) (ds gs : List (DataW H)) (before : List MemPlace)
    (hval0 : ∀ (j : Nat) t v, Tryz.f8.params[j]? = some t → args[j]? = some v → Value.okWide Tryz.prog W .any base t v)
    (hW : DataW.Whole enc Tryz.prog Tryz.f8.params.toList Rows.tableLinesSpec.vars false W args.toList ds gs before)
    (hsz : (DataW.weightsEach Tryz.prog (Tryz.f8.params.toList ++ Rows.tableLinesSpec.plain.varTypes Tryz.prog) (ds ++ gs)).all (· ≤ reachBytes) = true) (hlib : LibW W) :
    Calls Tryz.prog 8 args W fun e W' => ∃ v, e = .returned v ∧ Rows.tableLinesSpec.post enc Tryz.prog Tryz.f8 false true false false W args v W' := by
  have hval : ∀ (j : Nat) t v, Tryz.f8.params[j]? = some t → args[j]? = some v → Value.okWide Tryz.prog W .any base t v := hval0
  have hW' := hW
  obtain ⟨p, q, hA0, hV, rfl, hfz, hnd⟩ := hW
  have hA : DataW.TrodAll enc Tryz.prog W 0 (fun _ => true) true Tryz.f8.params.toList args.toList ds p := hA0
  rw [Tryz.params8] at hA hval
  obtain ⟨v0, vs0, d0, ds0, p0, q0, hargs, rfl, rfl, h0, r0⟩ := trodAll_cons hA
  obtain ⟨v1, vs1, d1, ds1, p1, q1, rfl, rfl, rfl, h1, r1⟩ := trodAll_cons r0
  obtain ⟨rfl, rfl, rfl⟩ := trodAll_nil r1
  obtain rfl : args = #[v0, v1] := by cases args; simp_all
  obtain ⟨rfl, rfl⟩ := trodVars_none hV
  obtain ⟨a0, rfl, rfl, rfl, w0⟩ := open_string Tryz.underlying9 (hval 0 9 v0 rfl rfl) h0
  have z0 : a0.size < 140737488355328 := by have h : a0.data.toList.length ≤ reachBytes := sized_string hsz (j := 0) (t := 9) (by kernel_rfl) rfl; have h2 := reachBytes_lt; rw [Array.length_toList] at h; exact Nat.lt_of_le_of_lt h h2
  obtain ⟨a1, rfl, rfl, rfl, w1⟩ := open_string Tryz.underlying9 (hval 1 9 v1 rfl rfl) h1
  have z1 : a1.size < 140737488355328 := by have h : a1.data.toList.length ≤ reachBytes := sized_string hsz (j := 1) (t := 9) (by kernel_rfl) rfl; have h2 := reachBytes_lt; rw [Array.length_toList] at h; exact Nat.lt_of_le_of_lt h h2
  clear hA0 hval0
  refine (walk a0 a1 W w0 z0 w1 z1 hlib).mono fun e W' ⟨he, bel⟩ => ?_
  subst he
  exact ⟨_, rfl, _, _, _, [], _, [], hW', trodAll_mk1 (shut_bool Tryz.underlying4 _), (trodAll_cons_mk (shut_string Tryz.underlying9 w0) (trodAll_cons_mk (shut_string Tryz.underlying9 w1) trodAll_mk0)), rfl, bel.frame _, fun h => by cases h⟩
set_option maxRecDepth 100000 in
theorem lifted (os : Os) (started : os.Started) (H : Type) (enc : TypeId × Value → H) :
    ReturnsInHanded {} Tryz.checked os 8 .any (fun w args => (Rows.tableLinesSpec.pre enc Tryz.prog Tryz.f8 Rows.tableLinesRow.domain false w args ∧ laidMetH Tryz.prog Rows.tableLinesRow.laid w) ∧ sizedMet enc Tryz.prog Tryz.f8 (OpenSpec.ofChange Rows.tableLinesSpec) false w args) (Rows.tableLinesSpec.post enc Tryz.prog Tryz.f8 false true false false) := by
  refine returnsInHanded_of_calls own started (by kernel_rfl)
    (ChangeSpec.witness_shaped (enc := enc) (C := Tryz.checked) (os := os) (X := fun w _ => laidMetH Tryz.prog Rows.tableLinesRow.laid w) false (laidW os) #[.string ByteArray.empty, .string ByteArray.empty] 8 rfl (laidW_shaped os _) (by kernel_rfl) (by kernel_rfl) (by kernel_rfl) (laidW_met os _)) ?_
  intro W0 tape i _ hsh _ hok hpre _
  obtain ⟨_, _, _, fn', hfn', _, _, _, _, hval0⟩ := hok
  obtain rfl : Tryz.f8 = fn' := Option.some.inj (Tryz.func8.symm.trans hfn')
  obtain ⟨⟨⟨ds, gs, before, hw0, hcnd⟩, hlaid⟩, hsized⟩ := hpre
  refine (contract enc (W0.forCall tape i) W0.heap.size i.args ds gs before hval0 (hw0.of_heap (by rfl)) (hsized.weights hw0) (lib_of (hlaid.of_heap (by rfl)) hsh)).mono ?_
  rintro e W' ⟨v, rfl, hp⟩
  exact ChangeSpec.post_blind hp

theorem over : Rows.tableLinesRow.holds Tryz.pinned (OpenSpec.ofChange Rows.tableLinesSpec) :=
  OpenClaim.holds_of_wide 8 Tryz.f8 rfl rfl rfl rfl rfl rfl rfl ⟨rfl, rfl, rfl, rfl, rfl⟩ rfl rfl rfl rfl rfl (by kernel_rfl) Tryz.func8 (by kernel_rfl)
    (of_decide_eq_true (by kernel_rfl)) (by unfold Func.isWrapper; first | (rw [if_pos (by decide +kernel)]; kernel_rfl) | (rw [if_neg (by decide +kernel)]; exact ⟨rfl, rfl⟩))
    (fun os started H enc _ => lifted os started H enc)

/-- THE STATEMENT: the row's card, its tables tied to the program's text. -/
theorem proved : Rows.TableLinesCardSaid :=
  Claim7.holds_tied_plain_at .later [] [.data, .data, .data, .data, .sentinel, .sentinel, .pinned] true (true, "0a9a58302e58086c9ff52ec857a631c2cdb81a4d935ce5870f6fe08319071178") true
    over (fun _ h => by cases h) (by kernel_rfl) (fun _ h => by cases h) tableLines_row_tie rfl ⟨rfl, rfl⟩ (by kernel_rfl) rfl
    (fun f fn hf hfn => by
      obtain rfl : f = 8 := Option.some.inj ((show Tryz.prog.funcNamed Rows.tableLinesRow.func = some 8 by kernel_rfl).symm.trans hf) |>.symm
      obtain rfl : fn = Tryz.f8 := (Option.some.inj (Tryz.func8.symm.trans hfn)).symm
      exact ⟨by kernel_rfl, fun j t ht => by
        rw [Tryz.params8] at ht
        have hm := Array.mem_of_getElem? ht
        simp at hm
        rcases hm with rfl | rfl
        all_goals exact (show Tryz.prog.wantsStandIn _ = false by kernel_rfl)⟩)
    (by kernel_rfl)
#print axioms proved
end Go.Proofs.YtpodedhnlicckaaGreatDoor.tableLines
