/- The string of bytes. -/
import Derived.Test.YtfochgpjpngnlaaMemOwnP
import Derived.Laws.BytesArg
namespace Go.Proofs.Ytfochgpjpngnlaa
open Go.RowKit
set_option linter.unusedVariables false
def strB (X : Nat → Nat) (n : Nat) : ByteArray := strOfNums ((List.range n).map fun i => ((X i : Nat) : Int))
theorem strB_congr {X Y : Nat → Nat} {n : Nat} (h : ∀ i, i < n → X i = Y i) : strB X n = strB Y n := by
  unfold strB
  congr 1
  apply List.map_congr_left
  intro i hi
  rw [h i (by simpa using hi)]
theorem str_at {w : World} {a : Option Addr} {n : Nat} {X : Nat → Nat} (c : Nat) (h : SliceAt w a n (bV X)) : (convert 35 9 (.slice a n c)).run Try.prog w = .ok (.string (strB X n)) w := by
  by_cases hp : 0 < n
  · obtain ⟨b, off, rfl, hlt, hc⟩ := h.at hp
    exact run_convert_bytes_arg w _ _ Try.underlying35 Try.underlying5 b off n c _ (by simp) (fun i hi => by rw [hc i hi]; simp [bV, hi]) _ Try.underlying9
  · obtain rfl : n = 0 := by omega
    cases a with
    | none => exact run_convert_bytes_nil w _ _ Try.underlying35 Try.underlying5 0 c _ Try.underlying9
    | some x =>
      rw [run_convert_bytes_string w _ _ _ _ 0 c Try.underlying35 Try.underlying5 Try.underlying9, run_bytesToString w x 0 c [] (by simp [loadCells, loadCellsFrom])]
      rfl
theorem hit_mono {r : Reg} {at_ n right d m : Nat} (h : r.hit at_ n right = true) (hd : d + m ≤ n) : r.hit (at_ + d) m right = true := by
  unfold Reg.hit at h ⊢
  simp only [Bool.and_eq_true, decide_eq_true_eq] at h ⊢
  omega
theorem first_isSome {p : Nat → Bool} {n : Nat} : (first p n).isSome = true ↔ ∃ i, i < n ∧ p i = true := by
  unfold first
  rw [List.find?_isSome]
  simp
theorem found_mono {L : Nat → Reg} {l at_ n right d m : Nat} (h : (found L l at_ n right).isSome = true) (hd : d + m ≤ n) (hm : m ≠ 0) : (found L l (at_ + d) m right).isSome = true := by
  have hn : n ≠ 0 := by omega
  unfold found at h ⊢
  rw [if_neg hn] at h
  rw [if_neg hm]
  rw [first_isSome] at h ⊢
  obtain ⟨i, hi, hp⟩ := h
  exact ⟨i, hi, hit_mono hp hd⟩
theorem leN_add (B : Nat → Nat) (at_ h : Nat) : ∀ k, leN B at_ (h + k) = leN B at_ h + leN B (at_ + h) k * 256 ^ h
  | 0 => by show leN B at_ h = leN B at_ h + 0 * 256 ^ h; omega
  | k + 1 => by
    show leN B at_ (h + k) + B (at_ + (h + k)) * 256 ^ (h + k) = leN B at_ h + (leN B (at_ + h) k + B (at_ + h + k) * 256 ^ k) * 256 ^ h
    rw [leN_add B at_ h k, Nat.add_mul, Nat.mul_assoc, ← Nat.pow_add, Nat.add_comm k h, show at_ + (h + k) = at_ + h + k by omega]
    omega
theorem or_half (B : Nat → Nat) (hB : ∀ i, B i < 256) (at_ h : Nat) (hh : h = 1 ∨ h = 2) : bits .or .u32 ((leN B at_ h : Nat) : Int) (((leN B (at_ + h) h : Nat) : Int) * 2 ^ (8 * h) % 4294967296) = ((leN B at_ (h + h) : Nat) : Int) := by
  have h1 := leN_lt hB at_ h
  have h2 := leN_lt hB (at_ + h) h
  have e := leN_add B at_ h h
  have h3 := leN_lt hB at_ (h + h)
  have h4 : (256 : Nat) ^ (h + h) ≤ 256 ^ 4 := Nat.pow_le_pow_right (by omega) (by omega)
  have e1 : ((leN B (at_ + h) h : Nat) : Int) * 2 ^ (8 * h) % 4294967296 = ((leN B (at_ + h) h * 256 ^ h : Nat) : Int) := by
    have e2 : ((leN B (at_ + h) h * 256 ^ h : Nat) : Int) = ((leN B (at_ + h) h : Nat) : Int) * 2 ^ (8 * h) := by
      rw [show 256 ^ h = 2 ^ (8 * h) by rw [Nat.pow_mul]]; push_cast; rfl
    rw [← e2]; omega
  rw [e1, or_join _ _ h h1 (by omega), e]
theorem fetch_g (g : Nat) (M : MS) (hg : M.g = g) (n : Nat) (hn : M.n = n) (a : Option Addr) (l c : Nat) (L : Nat → Reg) (at_ : Nat) (w : World) (h : MemAt w 57 M) (hL : RegsAt w a l L) (hl : l ≤ 9223372036854775807) (h1 : at_ < 4294967296) (E : Int) (m : Nat) (hm : mayM n L l at_ 8 4 = m) (hE : mayE n L l at_ 8 4 = E) :
    Calls Try.prog 21 #[.pointer (some ⟨g, 0, none⟩), .slice a l c, .int .u32 (at_ : Int)] w fun e w' => ∃ v, e = .returned (.tuple #[v, .int .i64 E]) ∧ GotAt w w' v m (fun i => M.B (at_ + i)) := by
  subst hg; subst hn; subst hm; subst hE
  exact fetch_any M a l c L at_ w h hL hl h1
end Go.Proofs.Ytfochgpjpngnlaa
