/- Feeds that lie behind a slice. -/
import Derived.Test.YtlfcmedhadfheaaAutW
namespace Go.Proofs.Ytlfcmedhadfheaa
open Go.RowKit
set_option linter.unusedVariables false
def fd0 : FD := ⟨0, 0, 0, 0, 0, 0⟩
instance : Inhabited FD := ⟨fd0⟩
def fdV (l : List FD) (i j : Nat) : Value :=
  if j = 0 then .int .u32 ((l.getD i fd0).cl : Int) else if j = 1 then .int .u32 ((l.getD i fd0).no : Int) else if j = 2 then .int .u32 ((l.getD i fd0).re : Int)
  else if j = 3 then .int .u32 ((l.getD i fd0).ak : Int) else if j = 4 then .int .u32 ((l.getD i fd0).ca : Int) else .int .u32 ((l.getD i fd0).rq : Int)
structure FdsAt (w : World) (v : Value) (l : List FD) : Prop where
  at_ : ∃ a c, v = .slice a l.length c ∧ l.length ≤ c ∧ c ≤ maxLen ∧ SliceN w a l.length 6 (fdV l)
  ok : ∀ i, i < l.length → (l.getD i fd0).Ok
theorem FdsAt.below {w w' : World} {v : Value} {l : List FD} (h : FdsAt w v l) (hb : Below w.heap.size w w') : FdsAt w' v l := by
  obtain ⟨⟨a, c, h1, h2, h3, h4⟩, h5⟩ := h
  exact ⟨⟨a, c, h1, h2, h3, h4.below hb⟩, h5⟩
theorem u32Cells : Try.prog.cellsOf 34 = 1 := by kernel_rfl
theorem feedCells : Try.prog.cellsOf 38 = 6 := by kernel_rfl
theorem reads_u32 {w : World} {cs : List Value} {o : Nat} (h : ReadsC w 34 ((cs.drop o).take (Try.prog.cellsOf 34))) : ∃ n : Nat, n < 4294967296 ∧ cs.getD o undef = .int .u32 (n : Int) := by
  rw [u32Cells] at h
  obtain ⟨n, hc, hw⟩ := reads_int1 Try.underlying34 h
  obtain ⟨h0, h1⟩ := bounds_u32 hw
  obtain ⟨m, rfl⟩ := Int.eq_ofNat_of_zero_le h0
  exact ⟨m, by omega, one_take hc⟩
theorem reads_fd {w : World} {cs : List Value} (h : ReadsC w 38 cs) : ∃ f : FD, f.Ok ∧ cs.getD 0 undef = .int .u32 (f.cl : Int) ∧ cs.getD 1 undef = .int .u32 (f.no : Int) ∧ cs.getD 2 undef = .int .u32 (f.re : Int) ∧ cs.getD 3 undef = .int .u32 (f.ak : Int) ∧ cs.getD 4 undef = .int .u32 (f.ca : Int) ∧ cs.getD 5 undef = .int .u32 (f.rq : Int) := by
  obtain ⟨hl, hf⟩ := reads_struct Try.underlying38 h
  obtain ⟨a, ha, e0⟩ := reads_u32 (hf 0 _ rfl)
  obtain ⟨b, hb, e1⟩ := reads_u32 (hf 1 _ rfl)
  obtain ⟨c, hc, e2⟩ := reads_u32 (hf 2 _ rfl)
  obtain ⟨d, hd, e3⟩ := reads_u32 (hf 3 _ rfl)
  obtain ⟨e, he, e4⟩ := reads_u32 (hf 4 _ rfl)
  obtain ⟨g, hg, e5⟩ := reads_u32 (hf 5 _ rfl)
  exact ⟨⟨a, b, c, d, e, g⟩, ⟨ha, hb, hc, hd, he, hg⟩, e0, e1, e2, e3, e4, e5⟩
theorem reads_fds {w : World} {v : Value} (h : ReadsC w 26 [v]) : ∃ l, FdsAt w v l := by
  obtain ⟨a, n, c, e⟩ := reads_shape Try.underlying26 h
  cases e
  obtain ⟨hl, hm, C, hs, hr⟩ := reads_sliceN Try.underlying26 feedCells (by omega) h
  obtain ⟨D, hD⟩ := choose_nat (α := FD) (p := fun i f => f.Ok ∧ (C i).getD 0 undef = .int .u32 (f.cl : Int) ∧ (C i).getD 1 undef = .int .u32 (f.no : Int) ∧ (C i).getD 2 undef = .int .u32 (f.re : Int) ∧ (C i).getD 3 undef = .int .u32 (f.ak : Int) ∧ (C i).getD 4 undef = .int .u32 (f.ca : Int) ∧ (C i).getD 5 undef = .int .u32 (f.rq : Int)) (fun i hi => reads_fd (hr i hi).2)
  obtain ⟨l, hll, hle⟩ := list_of n D fd0
  subst hll
  refine ⟨l, ⟨a, c, rfl, hl, hm, hs.congr fun i hi j hj => ?_⟩, fun i hi => by rw [hle i hi]; exact (hD i hi).1⟩
  unfold fdV
  rw [hle i hi]
  obtain ⟨_, e0, e1, e2, e3, e4, e5⟩ := hD i hi
  match j, hj with
  | 0, _ => exact e0
  | 1, _ => exact e1
  | 2, _ => exact e2
  | 3, _ => exact e3
  | 4, _ => exact e4
  | 5, _ => exact e5
end Go.Proofs.Ytlfcmedhadfheaa
