/- same. -/
import Derived.Test.YteekneicahfkpaaRigR
namespace Go.Proofs.Yteekneicahfkpaa
open Go.RowKit Go.Shelf
set_option linter.unusedVariables false
set_option linter.unusedSimpArgs false
def u32V (X : Nat → Nat) (i : Nat) : Value := .int .u32 (X i : Int)
theorem own_at {w : World} {B e n : Nat} {v : Value} {xs : List Value} {V : Nat → Value} (h : w.ownsRow B e 1 v n xs) (hV : ∀ i, i < n → xs[i]? = some (V i)) : ∃ a c, v = .slice a n c ∧ SliceAt w a n V := by
  rcases h.2 with ⟨rfl, rfl⟩ | ⟨g, cap, cur, rfl, hg, hb, h1, h2, h3, h4⟩
  · exact ⟨none, 0, rfl, .inl rfl⟩
  · refine ⟨_, cap, rfl, .inr ⟨g, 0, rfl, heap_lt hb, fun i hi => ?_⟩⟩
    rw [Nat.zero_add]
    have : xs[i]? = cur[i]? := by rw [← h4, List.getElem?_take_of_lt (by omega), Array.getElem?_toList]
    rw [hV i hi] at this
    exact cell_row hb this.symm
theorem same_true (a b : Option Addr) (n c d : Nat) (X : Nat → Nat) (w : World) (ha : SliceAt w a n (u32V X)) (hb : SliceAt w b n (u32V X)) (hn : n ≤ 9223372036854775807) :
    Calls Try.prog 15 #[.slice a n c, .slice b n d] w fun e w' => e = .returned (.bool true) ∧ w' = w := by
  have HA := Lib.hid ha; have HB := Lib.hid hb
  clear ha hb
  go_enter Try.func15, Try.ntmps15
  go_wp2_with fail
  go_loopw [14] (fun i wr => ∃ k : Nat, k ≤ n ∧ i = .int .i64 k ∧ wr = w) (fun i _ => n - (intOf i).toNat)
  case atStart => exact ⟨0, Nat.zero_le _, rfl, by first | trivial | rfl⟩
  case round =>
    obtain ⟨k, hk, rfl, rfl⟩ := hrel
    by_cases hlt : k < n
    · obtain ⟨sb, soff, rfl, hsl, hc⟩ := HA.out.at (by omega)
      obtain ⟨tb, toff, rfl, htl, hd⟩ := HB.out.at (by omega)
      have x0 := hc k hlt
      have x1 := hd k hlt
      unfold u32V at x0 x1
      clear hc hd
      go_wp2_with fail
      go_roundw
      case rel => exact ⟨k + 1, by omega, by go_num, by first | trivial | rfl⟩
      case measure => simp [intOf]; omega
    · obtain rfl : k = n := by omega
      go_wp2_with fail
      go_ret
      exact ⟨rfl, rfl⟩
end Go.Proofs.Yteekneicahfkpaa
