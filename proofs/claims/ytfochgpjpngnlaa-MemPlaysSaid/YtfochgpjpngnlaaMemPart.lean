/- part, Size, Zero, Put, Get. -/
import Derived.Test.YtfochgpjpngnlaaMemBase
namespace Go.Proofs.Ytfochgpjpngnlaa
open Go.RowKit
set_option linter.unusedVariables false
def partE (n at_ k : Nat) : Int := if k = 0 then 0 else if n < at_ + k then 5 else 0
def partM (n at_ k : Nat) : Nat := if n < at_ + k then 0 else k
theorem part_nil (at_ k : Int) (w : World) : Calls Try.prog 26 #[.pointer none, .int .u64 at_, .int .u64 k] w fun e w' => e = .returned (.tuple #[.slice none 0 0, .int .i64 1]) ∧ w = w' := by
  go_enter Try.func26, Try.ntmps26
  go_wp2_with fail
  go_ret2
  exact ⟨rfl, rfl⟩
def PartPost (M : MS) (at_ k : Nat) (w : World) (e : Ending) (w' : World) : Prop := (∃ a c, e = .returned (.tuple #[.slice a (partM M.n at_ k) c, .int .i64 (partE M.n at_ k)]) ∧ PartOf M at_ a (partM M.n at_ k) c) ∧ w = w'
theorem PartOf.zero (M : MS) (at_ : Nat) : PartOf M at_ none 0 0 := ⟨fun h => absurd h (by omega), fun _ => rfl, Nat.le_refl _, by unfold maxLen; omega⟩
set_option maxHeartbeats 2000000 in
theorem part_any (M : MS) (at_ k : Nat) (w : World) (h : MemAt w 57 M) (h1 : at_ < 4294967296) (h2 : k ≤ 9223372036854775807) :
    Calls Try.prog 26 #[.pointer (some ⟨M.g, 0, none⟩), .int .u64 (at_ : Int), .int .u64 (k : Int)] w (PartPost M at_ k w) := by
  by_cases hk : k = 0
  · subst hk
    have e1 : partM M.n at_ 0 = 0 := by unfold partM; split <;> rfl
    have e2 : partE M.n at_ 0 = 0 := rfl
    have HP : Hid (PartPost M at_ 0 w (.returned (.tuple #[.slice none 0 0, .int .i64 0])) w) := ⟨⟨none, 0, by rw [e1, e2], by rw [e1]; exact PartOf.zero _ _⟩, rfl⟩
    clear e1 e2 h
    go_enter Try.func26, Try.ntmps26
    go_wp2_with fail
    go_ret2
    exact HP.out
  have hn := h.n
  have c0 := h.cell
  have hg := heap_lt h.obj
  obtain ⟨a, c, hv, k1, k2, k3⟩ := h.sl
  rw [hv] at c0
  have HK := Lib.hid k3
  clear hv k3 h
  have t1 : ((k : Int) == 0) = false := by simpa using hk
  have hs : ((at_ : Int) + (k : Int)) < 18446744073709551616 := by omega
  by_cases hb : M.n < at_ + k
  · have e1 : partM M.n at_ k = 0 := by unfold partM; rw [if_pos hb]
    have e2 : partE M.n at_ k = 5 := by unfold partE; rw [if_neg hk, if_pos hb]
    have HP : Hid (PartPost M at_ k w (.returned (.tuple #[.slice none 0 0, .int .i64 5])) w) := ⟨⟨none, 0, by rw [e1, e2], by rw [e1]; exact PartOf.zero _ _⟩, rfl⟩
    have t2 : decide ((M.n : Int) < (at_ : Int) + (k : Int)) = true := by simp; omega
    clear e1 e2 HK
    go_enter Try.func26, Try.ntmps26
    go_wp2_with fail
    go_ret2
    exact HP.out
  · have e1 : partM M.n at_ k = k := by unfold partM; rw [if_neg hb]
    have e2 : partE M.n at_ k = 0 := by unfold partE; rw [if_neg hk, if_neg hb]
    obtain ⟨rfl, -⟩ := HK.out (by omega)
    have HP : Hid (PartPost M at_ k w (.returned (.tuple #[.slice (some ⟨M.b, at_, none⟩) k (c - at_), .int .i64 0])) w) := ⟨⟨_, c - at_, by rw [e1, e2], by rw [e1]; exact ⟨fun _ => ⟨rfl, by omega⟩, fun h => absurd h hk, ⟨by omega, by omega⟩⟩⟩, rfl⟩
    have t2 : decide ((M.n : Int) < (at_ : Int) + (k : Int)) = false := by simp; omega
    have q1 : (at_ : Int) ≤ (at_ : Int) + (k : Int) := by omega
    have q2 : (at_ : Int) + (k : Int) ≤ (c : Int) := by omega
    clear e1 e2 HK
    go_enter Try.func26, Try.ntmps26
    go_wp2_with fail
    go_ret2
    rw [show at_ + k - at_ = k by omega]
    exact HP.out
theorem size_any (M : MS) (w : World) (h : MemAt w 57 M) :
    Calls Try.prog 10 #[.pointer (some ⟨M.g, 0, none⟩)] w fun e w' => e = .returned (.int .u32 (M.n : Int)) ∧ w = w' := by
  have hn := h.n
  have c0 := h.cell
  have hg := heap_lt h.obj
  obtain ⟨a, c, hv, k1, k2, k3⟩ := h.sl
  rw [hv] at c0
  clear hv k3 h
  go_enter Try.func10, Try.ntmps10
  go_wp2_with fail
  go_ret
  exact ⟨rfl, rfl⟩
theorem size_nil (w : World) : Calls Try.prog 10 #[.pointer none] w fun e w' => e = .returned (.int .u32 0) ∧ w = w' := by
  go_enter Try.func10, Try.ntmps10
  go_wp2_with fail
  go_ret
  exact ⟨rfl, rfl⟩
theorem copy_nil (w : World) : Calls Try.prog 23 #[.pointer none] w fun e w' => e = .returned (.pointer none) ∧ w = w' := by
  go_enter Try.func23, Try.ntmps23
  go_wp2_with fail
  go_ret
  exact ⟨rfl, rfl⟩
set_option maxHeartbeats 2000000 in
theorem zero_any (M : MS) (at_ k : Nat) (w : World) (h : MemAt w 57 M) (h1 : at_ < 4294967296) (h2 : k < 4294967296) :
    Calls Try.prog 11 #[.pointer (some ⟨M.g, 0, none⟩), .int .u32 (at_ : Int), .int .u32 (k : Int)] w fun e w' => e = .returned (.int .i64 (partE M.n at_ k)) ∧ MemAt w' 57 (M.put at_ (partM M.n at_ k) fun _ => 0) ∧ Only M.W w w' := by
  have H := Lib.hid h
  clear h
  go_enter Try.func11, Try.ntmps11
  go_wp2_with fail
  refine (part_any M at_ k w H.out h1 (by omega)).mono ?_
  rintro e w' ⟨⟨a, c, rfl, hp⟩, rfl⟩
  obtain ⟨w1, hr, hm, ho⟩ := clear_part H.out hp
  have HM := Lib.hid hm; have HO := Lib.hid ho
  clear hp hm ho
  go_wp2_with fail
  go_ret
  exact ⟨rfl, HM.out, HO.out⟩
set_option maxHeartbeats 2000000 in
theorem put_any (M : MS) (at_ : Nat) (s : Option Addr) (k c : Nat) (X : Nat → Nat) (w : World) (h : MemAt w 57 M) (h1 : at_ < 4294967296) (h2 : k ≤ 9223372036854775807) (hX : SliceAt w s k (bV X)) (hl : ∀ i, X i < 256) :
    Calls Try.prog 13 #[.pointer (some ⟨M.g, 0, none⟩), .int .u32 (at_ : Int), .slice s k c] w fun e w' => e = .returned (.int .i64 (partE M.n at_ k)) ∧ MemAt w' 57 (M.put at_ (partM M.n at_ k) X) ∧ Only M.W w w' := by
  have H := Lib.hid h; have HX := Lib.hid hX; have HL := Lib.hid hl
  clear h hX hl
  go_enter Try.func13, Try.ntmps13
  go_wp2_with fail
  refine (part_any M at_ k w H.out h1 (by omega)).mono ?_
  rintro e w' ⟨⟨a, c', rfl, hp⟩, rfl⟩
  obtain ⟨w1, r, hr, hm, ho⟩ := copy_part (kc := c) H.out hp HX.out HL.out (by unfold partM; split <;> simp)
  have HM := Lib.hid hm; have HO := Lib.hid ho
  clear hp hm ho
  go_wp2_with fail
  go_ret
  exact ⟨rfl, HM.out, HO.out⟩
def GotAt (w w' : World) (v : Value) (m : Nat) (X : Nat → Nat) : Prop := (∃ b, SlAt w' v b 5 m (bV X) ∧ (0 < m → w.heap.size ≤ b ∧ b < w'.heap.size)) ∧ Below w.heap.size w w'
set_option maxHeartbeats 2000000 in
theorem get_any (M : MS) (at_ k : Nat) (w : World) (h : MemAt w 57 M) (h1 : at_ < 4294967296) (h2 : k < 4294967296) :
    Calls Try.prog 15 #[.pointer (some ⟨M.g, 0, none⟩), .int .u32 (at_ : Int), .int .u32 (k : Int)] w fun e w' => ∃ v, e = .returned (.tuple #[v, .int .i64 (partE M.n at_ k)]) ∧ GotAt w w' v (partM M.n at_ k) (fun i => M.B (at_ + i)) := by
  have H := Lib.hid h
  have hn := h.n
  clear h
  go_enter Try.func15, Try.ntmps15
  go_wp2_with fail
  refine (part_any M at_ k w H.out h1 (by omega)).mono ?_
  rintro e w' ⟨⟨a, c', rfl, hp⟩, rfl⟩
  have HS := Lib.hid (hp.at H.out)
  have hm : partM M.n at_ k ≤ 1000000 := by unfold partM; split <;> omega
  clear hp
  go_wp2_with fail
  refine (clone_u8 a (partM M.n at_ k) c' (bV fun i => M.B (at_ + i)) w (bV_one _) hm HS.out).mono ?_
  rintro e w1 ⟨v, rfl, hs, hb⟩
  have G : Hid (GotAt w w1 v (partM M.n at_ k) (fun i => M.B (at_ + i))) := ⟨hs, hb⟩
  clear hs hb
  go_wp2_with fail
  go_ret2
  exact ⟨_, rfl, G.out⟩
theorem get_nil (at_ k : Int) (w : World) (ha : 0 ≤ at_ ∧ at_ < 4294967296) (hk : 0 ≤ k ∧ k < 4294967296) : Calls Try.prog 15 #[.pointer none, .int .u32 at_, .int .u32 k] w fun e w' => ∃ v, e = .returned (.tuple #[v, .int .i64 1]) ∧ Below w.heap.size w w' := by
  go_enter Try.func15, Try.ntmps15
  go_wp2_with fail
  refine (part_nil _ _ w).mono ?_
  rintro e w' ⟨rfl, rfl⟩
  go_wp2_with fail
  refine (clone_u8 none 0 0 (bV fun _ => 0) w (bV_one _) (by omega) (.inl rfl)).mono ?_
  rintro e w1 ⟨v, rfl, hs, hb⟩
  have B := Lib.hid hb
  clear hs hb
  go_wp2_with fail
  go_ret2
  exact ⟨_, rfl, B.out⟩
theorem zero_nil (at_ k : Int) (w : World) (ha : 0 ≤ at_ ∧ at_ < 4294967296) (hk : 0 ≤ k ∧ k < 4294967296) : Calls Try.prog 11 #[.pointer none, .int .u32 at_, .int .u32 k] w fun e w' => e = .returned (.int .i64 1) ∧ w = w' := by
  have hr : ∀ ty, (Builtin.clear_ #[35] ty #[.slice none 0 0]).run Try.prog w = .ok (.tuple #[]) w := fun ty => by simp [Builtin.clear_, run_underlying Try.underlying35]
  go_enter Try.func11, Try.ntmps11
  go_wp2_with fail
  refine (part_nil _ _ w).mono ?_
  rintro e w' ⟨rfl, rfl⟩
  go_wp2_with fail
  go_ret
  exact ⟨rfl, rfl⟩
theorem put_nil (at_ : Int) (w : World) (ha : 0 ≤ at_ ∧ at_ < 4294967296) : Calls Try.prog 13 #[.pointer none, .int .u32 at_, .slice none 0 0] w fun e w' => e = .returned (.int .i64 1) ∧ w = w' := by
  have hr : ∀ ty, (Builtin.copy_ #[35, 35] ty #[.slice none 0 0, .slice none 0 0]).run Try.prog w = .ok (goInt 0) w := fun ty => run_copy_none w _ _ ty _ _ _ _ _ _ _ Try.underlying35 infoU8s (by simp)
  go_enter Try.func13, Try.ntmps13
  go_wp2_with fail
  refine (part_nil _ _ w).mono ?_
  rintro e w' ⟨rfl, rfl⟩
  go_wp2_with fail
  go_ret
  exact ⟨rfl, rfl⟩
end Go.Proofs.Ytfochgpjpngnlaa
