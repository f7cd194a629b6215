/- Plain: what TableLines wants. -/
import Derived.Test.YtpodedhnlicckaaGreatDoorTbBp
import Derived.Test.YtpodedhnlicckaaGreatDoorTbSp
namespace Go.Proofs.YtpodedhnlicckaaGreatDoor
set_option linter.unusedVariables false
set_option linter.unusedSimpArgs false
def endsD (P : List (List UInt8)) : List UInt8 := P.flatMap fun p => p ++ [10]
theorem endsD_cons (p : List UInt8) (P : List (List UInt8)) : endsD (p :: P) = p ++ 10 :: endsD P := by simp [endsD]
theorem endsD_app (P Q : List (List UInt8)) : endsD (P ++ Q) = endsD P ++ endsD Q := by simp [endsD]
theorem front_many : ∀ (P : List (List UInt8)), (∀ p ∈ P, (10 : UInt8) ∉ p) → ∀ r, partL 10 (endsD P ++ r) = P ++ partL 10 r
  | [], _, r => rfl
  | p :: P, h, r => by
    rw [endsD_cons, List.append_assoc, List.cons_append, partL_front 10 p (h p (by simp)), front_many P (fun q hq => h q (List.mem_cons_of_mem _ hq)) r]
    rfl
/-- The lines of a text: the ended ones, the last. -/
theorem lines_of : ∀ (n : Nat) (s : List UInt8), s.length ≤ n → ∃ Q last, s = endsD Q ++ last ∧ (∀ q ∈ Q, (10 : UInt8) ∉ q) ∧ Lib.count s [10] = Q.length ∧ Lib.splitK [10] 1 (Lib.count s [10]) s = Q.map (fun q => q ++ [10]) ++ [last]
  | n, s, hn => by
    rcases index_cases s 10 with ⟨h1, h2⟩ | ⟨p, r, h1, h2, h3⟩
    · exact ⟨[], s, rfl, fun q hq => (by cases hq), Lib.count_miss h1, by rw [Lib.count_miss h1]; rfl⟩
    · cases n with
      | zero => rw [h1] at hn; simp at hn
      | succ n =>
        obtain ⟨Q, last, k1, k2, k3, k4⟩ := lines_of n r (by rw [h1] at hn; simp at hn; omega)
        have e1 : s.take (((p.length : Int)).toNat + 1) = p ++ [10] := by rw [h1]; simp [List.take_append]; exact List.take_of_length_le (by omega)
        have e2 : s.drop (((p.length : Int)).toNat + [(10 : UInt8)].length) = r := by rw [h1]; simp
        have e3 : s.drop (p.length + [(10 : UInt8)].length) = r := by rw [h1]; simp
        refine ⟨p :: Q, last, ?_, ?_, ?_, ?_⟩
        · rw [endsD_cons, h1, List.append_assoc, List.cons_append, ← k1]
        · intro q hq
          rcases List.mem_cons.1 hq with rfl | hq
          · exact h2
          · exact k2 q hq
        · rw [Lib.count_hit (by simp) h3, e3, k3, List.length_cons]; omega
        · rw [Lib.count_hit (by simp) h3, Nat.add_comm]
          unfold Lib.splitK
          rw [if_neg (by rw [h3]; simp), h3, e1, e2, e3, k4]
          rfl
theorem lines_law {s b : List UInt8} {Q : List (List UInt8)} {last : List UInt8} {T : Tab} {n : Nat} (hs : s = endsD Q ++ last) (hq : ∀ q ∈ Q, (10 : UInt8) ∉ q) (h : parseT s = (T, n, 262)) (h1 : 1 ≤ n) (h2 : n ≤ Q.length) (hl : s.length + b.length ≤ 8000) :
    parseT (s ++ b) = (tab0, n, 262) ∧ parseT (endsD (Q.take n) ++ b) = (tab0, n, 262) := by
  have hT : T = tab0 := by have := parseT_bad (s := s) (by rw [h]; show (262 : Nat) ≠ 0; omega); rw [h] at this; exact this
  subst hT
  have hQ : endsD Q = endsD (Q.take n) ++ endsD (Q.drop n) := by rw [← endsD_app, List.take_append_drop]
  have hp : parT 0 tab0 (Q.take n ++ (Q.drop n ++ partL 10 last)) = (tab0, n, 262) := by
    unfold parseT at h
    rw [if_neg (by omega), hs, front_many Q hq, ← List.take_append_drop n Q, List.append_assoc] at h
    exact h
  have hne : Q.drop n ++ partL 10 last ≠ [] := fun e => partL_ne 10 last (List.append_eq_nil_iff.1 e).2
  have hlen : (Q.take n).length = n := by rw [List.length_take]; omega
  have hq' : ∀ q ∈ Q.take n, (10 : UInt8) ∉ q := fun q hm => hq q (List.mem_of_mem_take hm)
  have key : ∀ r, (endsD (Q.take n) ++ r).length ≤ 8000 → parseT (endsD (Q.take n) ++ r) = (tab0, n, 262) := fun r hr => by
    unfold parseT
    rw [if_neg (by omega), front_many _ hq']
    exact par_pre (Q.take n) 0 tab0 _ _ n hne (partL_ne 10 r) hp (by omega) h1 (by omega)
  have hsl : s = endsD (Q.take n) ++ (endsD (Q.drop n) ++ last) := by rw [hs, hQ, List.append_assoc]
  constructor
  · rw [hsl, List.append_assoc]
    apply key
    rw [← List.append_assoc, ← hsl, List.length_append]; exact hl
  · apply key
    have : (endsD (Q.take n)).length ≤ s.length := by rw [hsl, List.length_append]; omega
    rw [List.length_append]; omega
theorem take_lines (Q : List (List UInt8)) (last : List UInt8) {n : Nat} (h : n ≤ Q.length) : ((Q.map fun q => q ++ [10]) ++ [last]).take n = (Q.take n).map fun q => q ++ [10] := by
  rw [List.take_append_of_le_length (by simpa using h), List.map_take]
end Go.Proofs.YtpodedhnlicckaaGreatDoor
