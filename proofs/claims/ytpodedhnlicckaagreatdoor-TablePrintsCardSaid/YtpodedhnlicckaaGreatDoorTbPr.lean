/- Plain: the document's writer, which puts nothing behind 8000 bytes. -/
import Derived.Test.YtpodedhnlicckaaGreatDoorTbPq
namespace Go.Proofs.YtpodedhnlicckaaGreatDoor
set_option linter.unusedVariables false
set_option linter.unusedSimpArgs false
set_option maxRecDepth 100000
/-- What was put, and what is kept of it. -/
def Cap (S F : List UInt8) : Prop := (F.length ≤ 8000 ∧ S = F) ∨ (8000 < F.length ∧ 8000 < S.length ∧ S.length ≤ 100000)
def capA (S p : List UInt8) : List UInt8 := if S.length ≤ 8000 then S ++ p else S
theorem Cap.zero : Cap [] [] := .inl ⟨by simp, rfl⟩
theorem Cap.len {S F : List UInt8} (h : Cap S F) : S.length ≤ 100000 := by
  rcases h with ⟨h, rfl⟩ | ⟨_, _, h⟩ <;> omega
theorem Cap.put {S F : List UInt8} (h : Cap S F) {p : List UInt8} (hp : p.length ≤ 1000) : Cap (capA S p) (F ++ p) := by
  unfold capA
  rcases h with ⟨h, rfl⟩ | ⟨h1, h2, h3⟩
  · rw [if_pos h]
    by_cases hl : (S ++ p).length ≤ 8000
    · exact .inl ⟨hl, rfl⟩
    · refine .inr ⟨by omega, by omega, ?_⟩
      rw [List.length_append]; omega
  · rw [if_neg (by omega)]
    refine .inr ⟨?_, h2, h3⟩
    rw [List.length_append]; omega
theorem Cap.full {S F : List UInt8} (h : Cap S F) : (8000 < S.length ↔ 8000 < F.length) ∧ (F.length ≤ 8000 → S = F) := by
  rcases h with ⟨h, rfl⟩ | ⟨h1, h2, h3⟩
  · exact ⟨Iff.rfl, fun _ => rfl⟩
  · exact ⟨⟨fun _ => h1, fun _ => h2⟩, fun h => by omega⟩
theorem capA_len {S p : List UInt8} (h : S.length ≤ 100000) (hp : p.length ≤ 1000) : (capA S p).length ≤ 100000 := by
  unfold capA
  split
  · rw [List.length_append]; omega
  · exact h
end Go.Proofs.YtpodedhnlicckaaGreatDoor
