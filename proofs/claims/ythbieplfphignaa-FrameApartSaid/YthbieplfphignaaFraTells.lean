/- The walk of FrameTells. -/
import Derived.Test.YthbieplfphignaaFraRead
namespace Go.Proofs.Ythbieplfphignaa
open Go.RowKit Go.Shelf
set_option linter.unusedVariables false
/-- The same, of whatever length. -/
theorem rowAt {W : World} {base : Nat} {v : Value} {l : List Nat} (h : W.ownsRow base 3 1 v l.length (natVs l)) :
    ∃ (a : Option Addr) (c : Nat), v = .slice a l.length c ∧ l.length ≤ c ∧ SliceAt W a l.length (fun i => .int .i64 ((l[i]?.getD 0 : Nat) : Int)) := by
  by_cases hp : 0 < l.length
  · obtain ⟨o, c, rfl, ho, hc, _, hcell⟩ := rowNat h hp
    exact ⟨some ⟨o, 0, none⟩, c, rfl, hc, .inr ⟨o, 0, rfl, ho, fun i hi => by rw [Nat.zero_add, hcell i hi]; simp [hi]⟩⟩
  · rcases h.2 with ⟨rfl, h0⟩ | ⟨o, c, cur, rfl, ho, hh, hcap, _⟩
    · have : l.length = 0 := by omega
      exact ⟨none, 0, by rw [this], by omega, .inl this⟩
    · exact ⟨_, c, rfl, hcap, .inl (by omega)⟩
set_option maxHeartbeats 2000000 in
theorem tells_big (L sw : Nat) (a : Option Addr) (len cap : Nat) (parts part : Int) (k tick : Nat) (n : Int) (w : World) (hm : len ≤ 9223372036854775807) (h : 2000 < len) :
    Calls Try.prog 3 #[.agg #[.int .u32 (L : Int), .int .u32 (sw : Int), .slice a len cap], .int .i64 parts, .int .i64 part, .int .u64 (k : Int), .int .u64 (tick : Int), .int .i64 n] w fun e W' => e = .returned (.bool true) ∧ Below w.heap.size w W' := by
  have t1 : decide (2000 < (len : Int)) = true := by simp; omega
  go_enter Try.func3, Try.ntmps3
  go_wp2_with fail
  have hH := Held.new w #[.int .u32 (L : Int), .int .u32 (sw : Int), .slice a len cap] 25
  refine (known_any _).mono ?_
  rintro e w1 ⟨rfl, hb1⟩
  have B1 : Hid (Below w.heap.size w w1) := (below_box w _).trans (hb1.mono (by simp))
  have hH1 : Held w1 w.heap.size #[.int .u32 (L : Int), .int .u32 (sw : Int), .slice a len cap] 25 := (hb1.block _ hH.lt).trans hH
  have d0 : w1.cell? ⟨w.heap.size, 0, none⟩ = some (.int .u32 (L : Int)) := hH1.cell 0 _ rfl
  have d1 : w1.cell? ⟨w.heap.size, 1, none⟩ = some (.int .u32 (sw : Int)) := hH1.cell 1 _ rfl
  have d2 : w1.cell? ⟨w.heap.size, 2, none⟩ = some (.slice a len cap) := hH1.cell 2 _ rfl
  clear hb1 hH hH1
  go_wp2_with fail
  refine (great_any L sw a len cap true _ t1).mono ?_
  rintro e w2 ⟨rfl, hb2⟩
  have B2 : Hid (Below w.heap.size w w2) := B1.out.trans (hb2.mono B1.out.size)
  clear hb2
  go_wp2_with fail
  go_ret
  exact ⟨rfl, B2.out⟩
end Go.Proofs.Ythbieplfphignaa
