/- Plain: the document's reading of a line is the line that is printed. -/
import Derived.Test.YtdlpgoackmgdkaaGreatDoorArRn
namespace Go.Proofs.YtdlpgoackmgdkaaGreatDoor
open Go.RowKit Go.Shelf
set_option linter.unusedVariables false
set_option linter.unusedSimpArgs false
def atS : List UInt8 := [97, 116, 32]
def roS : List UInt8 := [32, 114, 111, 117, 116, 101, 32]
def dF (l : List UInt8) : List UInt8 := runD (l.drop 3)
def lB (l : List UInt8) : List UInt8 := (l.drop 3).drop (dF l).length
def dG (l : List UInt8) : List UInt8 := runD ((lB l).drop 7)
def lC (l : List UInt8) : List UInt8 := ((lB l).drop 7).drop (dG l).length
theorem isW_app (w r : List UInt8) : isW (w ++ r) w = true := by unfold isW; simp
theorem numV_dec {most n : Nat} (h : n ≤ most) (hm : most ≤ 4294967295) : numV most (Lib.decDigits n) = (n : Int) := by
  unfold numV; rw [arN_dec h hm]
theorem numV_inv {most : Nat} {d : List UInt8} (h : 0 ≤ numV most d) : ∃ n : Nat, numV most d = (n : Int) ∧ arN most d = some n := by
  unfold numV at h ⊢
  cases e : arN most d with
  | none => rw [e] at h; simp at h
  | some n => exact ⟨n, rfl, rfl⟩
theorem doc_fwd {l s : List UInt8} {x : PL} (hx : x.good) (h : l = lineT x ++ s) : isW l atS = true ∧ numV 4294967295 (dF l) = (x.fr : Int) ∧ isW (lB l) roS = true ∧ numV 65535 (dG l) = x.rt ∧ isW (lC l) [10] = true := by
  obtain ⟨n, hn⟩ := Int.eq_ofNat_of_zero_le hx.2.1
  have e0 : l = atS ++ (Lib.decDigits x.fr ++ 32 :: ([114, 111, 117, 116, 101, 32] ++ (Lib.decDigits n ++ 10 :: s))) := by
    rw [h, line_eq hx]
    unfold lineB2 atB roB atS
    rw [hn]
    simp
  have e1 : l.drop 3 = Lib.decDigits x.fr ++ 32 :: ([114, 111, 117, 116, 101, 32] ++ (Lib.decDigits n ++ 10 :: s)) := by rw [e0]; rfl
  have f1 : dF l = Lib.decDigits x.fr := by
    unfold dF; rw [e1]
    exact runD_of (dec_dig _) (by have := dec_len_pow 9 x.fr (by have := hx.1; omega); omega) (by decide)
  have e2 : lB l = roS ++ (Lib.decDigits n ++ 10 :: s) := by
    unfold lB; rw [f1, e1, List.drop_left]; rfl
  have e3 : (lB l).drop 7 = Lib.decDigits n ++ 10 :: s := by rw [e2]; rfl
  have hn5 : n ≤ 65535 := by have := hx.2.2; omega
  have f2 : dG l = Lib.decDigits n := by
    unfold dG; rw [e3]
    exact runD_of (dec_dig _) (by have := dec_len_pow 9 n (by omega); omega) (by decide)
  have e4 : lC l = [10] ++ s := by unfold lC; rw [f2, e3, List.drop_left]; rfl
  refine ⟨by rw [e0]; exact isW_app _ _, by rw [f1]; exact numV_dec hx.1 (by omega), by rw [e2]; exact isW_app _ _, ?_, by rw [e4]; exact isW_app _ _⟩
  rw [f2, numV_dec hn5 (by omega), hn]
theorem doc_bwd {l : List UInt8} (h1 : isW l atS = true) (h2 : 0 ≤ numV 4294967295 (dF l)) (h3 : isW (lB l) roS = true) (h4 : 0 ≤ numV 65535 (dG l)) (h5 : isW (lC l) [10] = true) :
    ∃ f n : Nat, numV 4294967295 (dF l) = (f : Int) ∧ numV 65535 (dG l) = (n : Int) ∧ (⟨f, (n : Int)⟩ : PL).good ∧ l = lineT ⟨f, (n : Int)⟩ ++ (lC l).drop 1 := by
  obtain ⟨f, g1, g2⟩ := numV_inv h2
  obtain ⟨n, g3, g4⟩ := numV_inv h4
  obtain ⟨k1, k2⟩ := arN_inv g2
  obtain ⟨k3, k4⟩ := arN_inv g4
  have hg : (⟨f, (n : Int)⟩ : PL).good := ⟨k2, by show (0 : Int) ≤ (n : Int); omega, by show (n : Int) ≤ 65535; omega⟩
  refine ⟨f, n, g1, g3, hg, ?_⟩
  have a1 := isW_yes h1
  have a2 := (runD_len (l.drop 3)).2.2
  have a3 := isW_yes h3
  have a4 := (runD_len ((lB l).drop 7)).2.2
  have a5 := isW_yes h5
  rw [line_eq hg]
  unfold lineB2 atB roB
  rw [show ((⟨f, (n : Int)⟩ : PL).rt).toNat = n by show ((n : Int)).toNat = n; omega]
  show l = _
  rw [k1, k3]
  have b1 : l = atS ++ (dF l ++ lB l) := a1.trans (congrArg (atS ++ ·) a2)
  have b2 : lB l = roS ++ (dG l ++ lC l) := a3.trans (congrArg (roS ++ ·) a4)
  have b3 : lC l = [10] ++ (lC l).drop 1 := a5
  conv => lhs; rw [b1, b2, b3]
  unfold atS roS
  simp
/-- Where one of the document's tests fails, no line stands ahead. -/
theorem doc_no {l : List UInt8} (h0 : l ≠ []) (h : isW l atS = true → 0 ≤ numV 4294967295 (dF l) → isW (lB l) roS = true → 0 ≤ numV 65535 (dG l) → isW (lC l) [10] = true → False) : noLn l :=
  ⟨h0, fun x hx s e => by
    obtain ⟨a, b, c, d, e⟩ := doc_fwd hx e
    exact h a (by omega) c (by have := hx.2.1; omega) e⟩
end Go.Proofs.YtdlpgoackmgdkaaGreatDoor
