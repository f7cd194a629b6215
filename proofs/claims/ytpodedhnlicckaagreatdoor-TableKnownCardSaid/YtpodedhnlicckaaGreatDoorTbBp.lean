/- Plain: what TableBack wants. -/
import Derived.Test.YtpodedhnlicckaaGreatDoorTbPk
import Derived.Test.YtpodedhnlicckaaGreatDoorTbGT
namespace Go.Proofs.YtpodedhnlicckaaGreatDoor
set_option linter.unusedVariables false
set_option linter.unusedSimpArgs false
theorem parT_bad : ∀ (ls : List (List UInt8)) (n : Nat) (T : Tab), (parT n T ls).2.2 ≠ 0 → (parT n T ls).1 = tab0
  | [], n, T, _ => rfl
  | [l], n, T, h => by
    rw [parT_one] at h ⊢
    by_cases e : 2 ≤ n ∧ l = []
    · rw [if_pos e] at h; exact absurd rfl h
    · rw [if_neg e]
  | l :: m :: r, n, T, h => by
    rw [parT_cons] at h ⊢
    cases hs : stepT T n l with
    | none => rfl
    | some T' => rw [hs] at h; exact parT_bad (m :: r) (n + 1) T' h
theorem parseT_bad {s : List UInt8} (h : (parseT s).2.2 ≠ 0) : (parseT s).1 = tab0 := by
  unfold parseT at h ⊢
  by_cases e : 8000 < s.length
  · rw [if_pos e]
  · rw [if_neg e] at h ⊢; exact parT_bad _ _ _ h
theorem joinB_len (c : UInt8) : ∀ ws : List (List UInt8), ws.length ≤ (joinB c ws).length + 1
  | [] => by simp
  | [w] => by simp
  | w :: x :: r => by
    have := joinB_len c (x :: r)
    show _ ≤ (w ++ c :: joinB c (x :: r)).length + 1
    simp only [List.length_append, List.length_cons] at *
    omega
theorem lineT_len (ws : List (List UInt8)) : ws.length ≤ (lineT ws).length := by
  have := joinB_len 32 ws
  unfold lineT
  simp only [List.length_append, List.length_cons, List.length_nil]
  omega
def cntW : List (List (List UInt8)) → Nat
  | [] => 0
  | l :: r => l.length + cntW r
theorem cntW_app : ∀ a b, cntW (a ++ b) = cntW a + cntW b
  | [], b => by simp [cntW]
  | x :: a, b => by simp only [List.cons_append, cntW, cntW_app a b]; omega
theorem cntW_len : ∀ ls : List (List (List UInt8)), cntW ls ≤ (ls.flatMap lineT).length
  | [] => by simp [cntW]
  | l :: r => by
    have := cntW_len r; have := lineT_len l
    simp only [List.flatMap_cons, List.length_append, cntW]; omega
def sumR : List Rt → Nat
  | [] => 0
  | r :: l => r.tr.length + r.pts.length + r.con.length + sumR l
theorem sumR_snoc : ∀ (l : List Rt) (r : Rt), sumR (l ++ [r]) = sumR l + (r.tr.length + r.pts.length + r.con.length)
  | [], r => by simp [sumR]
  | x :: l, r => by simp only [List.cons_append, sumR, sumR_snoc l r]; omega
theorem grS_sum (T : Tab) : ∀ k, k ≤ T.rts.length → grS T k = T.pts.length + T.rts.length + sumR (T.rts.take k)
  | 0, _ => by simp [grS, sumR]
  | k + 1, h => by
    have ih := grS_sum T k (by omega)
    have hg : T.rts.getD k rt0 = T.rts[k] := by rw [List.getD_eq_getElem?_getD, List.getElem?_eq_getElem (by omega)]; rfl
    rw [List.take_add_one, List.getElem?_eq_getElem (show k < T.rts.length by omega)]
    show grS T k + (T.rts.getD k rt0).tr.length + (T.rts.getD k rt0).pts.length + (T.rts.getD k rt0).con.length = _
    simp only [Option.toList_some]
    rw [sumR_snoc, ih, hg]
    omega
theorem cntP : ∀ l : List Int, l.length ≤ cntW (l.map fun p => [wPt, dI p])
  | [] => by simp [cntW]
  | x :: l => by have := cntP l; simp only [List.map_cons, cntW, List.length_cons, List.length_nil]; omega
theorem cntR : ∀ l : List Rt, l.length + sumR l ≤ cntW (l.map rtW)
  | [] => by simp [cntW, sumR]
  | x :: l => by
    have := cntR l
    have h : x.tr.length + x.pts.length + x.con.length + 1 ≤ (rtW x).length := by
      unfold rtW
      simp only [List.length_append, List.length_cons, List.length_map]
      omega
    simp only [List.map_cons, cntW, sumR, List.length_cons]; omega
theorem grS_text (T : Tab) : grS T T.rts.length ≤ (textT T).length := by
  have h := cntW_len (linesT T)
  have h1 := cntP T.pts; have h2 := cntR T.rts
  rw [grS_sum T _ (Nat.le_refl _), List.take_length]
  unfold textT
  unfold linesT at h ⊢
  simp only [cntW, cntW_app] at h
  omega
theorem print_ok {T : Tab} (h : (printT T).2 = 0) : printT T = (textT T, 0) ∧ goodT T = true ∧ (textT T).length ≤ 8000 := by
  unfold printT at h ⊢
  by_cases h1 : goodT T = false
  · rw [if_pos h1] at h; exact absurd h (by decide)
  · rw [if_neg h1] at h ⊢
    by_cases h2 : 8000 < (textT T).length
    · rw [if_pos h2] at h; exact absurd h (by decide)
    · rw [if_neg h2]; exact ⟨rfl, by simpa using h1, by omega⟩
theorem print_good {T : Tab} (h1 : goodT T = true) (h2 : (textT T).length ≤ 8000) : printT T = (textT T, 0) := by
  unfold printT
  rw [if_neg (by rw [h1]; decide), if_neg (by omega)]
end Go.Proofs.YtpodedhnlicckaaGreatDoor
