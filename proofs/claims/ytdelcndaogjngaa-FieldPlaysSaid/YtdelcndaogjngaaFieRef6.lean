/- What was put out, in order: what comes to be. -/
import Derived.Test.YtdelcndaogjngaaFieRef5
namespace Go.Proofs.Ytdelcndaogjngaa
open Go.RowKit
set_option linter.unusedVariables false
def putOn (s : Nat → Nat) (p : Nat × Nat) : Nat → Nat := fun j => if j = p.1 then p.2 else s j
def replay (s : Nat → Nat) (l : List (Nat × Nat)) : Nat → Nat := l.foldl putOn s
theorem replay_snoc (s : Nat → Nat) (l : List (Nat × Nat)) (p : Nat × Nat) : replay s (l ++ [p]) = putOn (replay s l) p := by simp [replay]
theorem replay_take (s : Nat → Nat) (l : List (Nat × Nat)) (k : Nat) (p : Nat × Nat) (h : l[k]? = some p) : replay s (l.take (k + 1)) = putOn (replay s (l.take k)) p := by
  rw [List.take_add_one, h]
  exact replay_snoc _ _ _
theorem done_outP (f : FS) (l : List (Nat × Nat)) (m x : Nat) (h : ∀ j, f.done j = replay f.safe l j) (j : Nat) : (f.outP m x).done j = replay (f.outP m x).safe (l ++ [(m, x)]) j := by
  have hs : (f.outP m x).safe = f.safe := rfl
  rw [hs, replay_snoc]
  unfold putOn
  show _ = if j = m then x else replay f.safe l j
  rw [← h j]
  unfold FS.done FS.outP
  by_cases e : j = m
  · simp [e]
  · simp [e]
theorem done_latch (f : FS) (X : Nat → Nat) (j : Nat) : (f.latch X).done j = replay (f.latch X).safe [] j := rfl
theorem done_commit (f : FS) (W : Nat → Nat) (j : Nat) : (f.commit W).done j = replay (f.commit W).safe [] j := rfl
end Go.Proofs.Ytdelcndaogjngaa
