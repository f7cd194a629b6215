/- Load, Store, Fetch. -/
import Derived.Test.YtfochgpjpngnlaaMemMay
import Derived.Laws.BitsAllLaws
namespace Go.Proofs.Ytfochgpjpngnlaa
open Go.RowKit
set_option linter.unusedVariables false
def leN (B : Nat → Nat) (at_ : Nat) : Nat → Nat
  | 0 => 0
  | k + 1 => leN B at_ k + B (at_ + k) * 256 ^ k
theorem leN_lt {B : Nat → Nat} (h : ∀ i, B i < 256) (at_ : Nat) : ∀ k, leN B at_ k < 256 ^ k
  | 0 => by show 0 < 1; omega
  | k + 1 => by
    have h1 := leN_lt h at_ k
    have h2 := h (at_ + k)
    show leN B at_ k + B (at_ + k) * 256 ^ k < 256 ^ (k + 1)
    rw [Nat.pow_succ]
    have h3 : B (at_ + k) * 256 ^ k ≤ 255 * 256 ^ k := Nat.mul_le_mul_right _ (by omega)
    omega
theorem or_join (x c k : Nat) (hx : x < 256 ^ k) (h : c * 256 ^ k + x < 4294967296) : bits .or .u32 (x : Int) ((c * 256 ^ k : Nat) : Int) = ((x + c * 256 ^ k : Nat) : Int) := by
  rw [u32_or_nat x (c * 256 ^ k) (by omega) (by omega), Nat.or_comm, show 256 ^ k = 2 ^ (8 * k) by rw [Nat.pow_mul], nat_join (8 * k) (c * 2 ^ (8 * k)) x (by simp) (by rw [Nat.pow_mul]; exact hx), Nat.add_comm]
theorem or_shl (x c k : Nat) (hx : x < 256 ^ k) (hc : c < 256) (hk : k < 4) : bits .or .u32 (x : Int) ((c : Int) * 2 ^ (8 * k) % 4294967296) = ((x + c * 256 ^ k : Nat) : Int) := by
  have h1 : c * 256 ^ k + x < 256 ^ (k + 1) := by
    rw [Nat.pow_succ]
    have h3 : c * 256 ^ k ≤ 255 * 256 ^ k := Nat.mul_le_mul_right _ (by omega)
    omega
  have h2 : 256 ^ (k + 1) ≤ 256 ^ 4 := Nat.pow_le_pow_right (by omega) (by omega)
  have h3 : c * 256 ^ k + x < 4294967296 := Nat.lt_of_lt_of_le h1 h2
  have e : (c : Int) * 2 ^ (8 * k) % 4294967296 = ((c * 256 ^ k : Nat) : Int) := by
    have e1 : ((c * 256 ^ k : Nat) : Int) = (c : Int) * 2 ^ (8 * k) := by
      rw [show 256 ^ k = 2 ^ (8 * k) by rw [Nat.pow_mul]]; push_cast; rfl
    rw [← e1]; omega
  rw [e]
  exact or_join x c k hx h3
theorem mayM_le {N : Nat} {L : Nat → Reg} {l at_ k right : Nat} (h : right ≠ 4) : mayM N L l at_ k right ≤ 4 := by
  unfold mayM
  by_cases e : mayBad k right
  · rw [if_pos e]; omega
  · rw [if_neg e]; unfold mayBad at e; split <;> omega
set_option maxHeartbeats 4000000 in
theorem load_any (M : MS) (a : Option Addr) (l c : Nat) (L : Nat → Reg) (at_ k : Nat) (w : World) (h : MemAt w 57 M) (hL : RegsAt w a l L) (hl : l ≤ 9223372036854775807) (h1 : at_ < 4294967296) (h2 : k < 256) :
    Calls Try.prog 17 #[.pointer (some ⟨M.g, 0, none⟩), .slice a l c, .int .u32 (at_ : Int), .int .u8 (k : Int)] w fun e w' => e = .returned (.tuple #[.int .u32 ((leN M.B at_ (mayM M.n L l at_ k 1) : Nat) : Int), .int .i64 (mayE M.n L l at_ k 1)]) ∧ Below w.heap.size w w' := by
  have H := Lib.hid h
  have HM := Lib.hid (may_any M a l c L at_ k 1 w h hL hl h1 h2 (by omega))
  have hm4 : mayM M.n L l at_ k 1 ≤ 4 := mayM_le (by omega)
  unfold MayPost at HM
  generalize mayE M.n L l at_ k 1 = E at *
  generalize mayM M.n L l at_ k 1 = m at *
  clear h hL
  go_enter Try.func17, Try.ntmps17
  go_wp2_with fail
  refine HM.out.mono ?_
  rintro e w1 ⟨⟨pa, pc, rfl, hp⟩, hb⟩
  have HS := Lib.hid ((hp.at H.out).below hb)
  have HB := Lib.hid hb
  clear hp hb HM
  go_wp2_with fail
  go_loop [12, 25] (fun x i => ∃ j : Nat, j ≤ m ∧ i = .int .i64 j ∧ x = .int .u32 ((leN M.B at_ j : Nat) : Int)) (fun _ i => m - (intOf i).toNat)
  case atStart => exact ⟨0, Nat.zero_le _, rfl, rfl⟩
  case round =>
    obtain ⟨j, hj, rfl, rfl⟩ := hrel
    by_cases hlt : j < m
    · have hj4 : j < 4 := by omega
      have hx := leN_lt H.out.lt at_ j
      have hc := H.out.lt (at_ + j)
      obtain ⟨sb, so, rfl, hsl, hcells⟩ := HS.out.at (by omega)
      have cx : w1.cell? ⟨sb, so + j, none⟩ = some (.int .u8 ((M.B (at_ + j) : Nat) : Int)) := hcells j hlt
      have HLE : Hid (leN M.B at_ (j + 1) = leN M.B at_ j + M.B (at_ + j) * 256 ^ j) := rfl
      have hji : (j : Int) < (m : Int) := by omega
      clear hcells
      generalize leN M.B at_ j = x at *
      generalize M.B (at_ + j) = cc at *
      have HO := Lib.hid (or_shl x cc j hx hc hj4)
      clear hx
      go_wp2_with fail
      rw [HO.out]
      refine ⟨⟨j + 1, by omega, by go_num, by rw [HLE.out]⟩, ?_⟩
      simp [intOf]; omega
    · obtain rfl : j = m := by omega
      go_wp2_with fail
      go_ret2
      exact ⟨rfl, HB.out⟩
def stB (x : Nat) (i : Nat) : Nat := x / 256 ^ i % 256
theorem stB_cast (x j : Nat) : ((x : Int) / 2 ^ (8 * j)) % 256 = ((stB x j : Nat) : Int) := by
  unfold stB
  rw [show 256 ^ j = 2 ^ (8 * j) by rw [Nat.pow_mul], Int.natCast_emod, Int.natCast_ediv, Int.natCast_pow]; rfl
theorem put_succ (M : MS) (at_ j : Nat) (X : Nat → Nat) : (M.put at_ (j + 1) X).B = fun i => if i = at_ + j then X j else (M.put at_ j X).B i := by
  funext i
  show (if at_ ≤ i ∧ i < at_ + (j + 1) then X (i - at_) else M.B i) = if i = at_ + j then X j else if at_ ≤ i ∧ i < at_ + j then X (i - at_) else M.B i
  by_cases e : i = at_ + j
  · subst e; rw [if_pos (by omega), if_pos rfl, show at_ + j - at_ = j by omega]
  · rw [if_neg e]
    by_cases h : at_ ≤ i ∧ i < at_ + j
    · rw [if_pos h, if_pos (by omega)]
    · rw [if_neg h, if_neg (by omega)]
theorem MemAt.put1 {w : World} {T : TypeId} {M : MS} {at_ j : Nat} {X : Nat → Nat} (h : MemAt w T (M.put at_ j X)) (hX : ∀ i, X i < 256) (hf : at_ + j < M.n) : MemAt (w.setCell ⟨M.b, at_ + j, none⟩ (.int .u8 ((X j : Nat) : Int))) T (M.put at_ (j + 1) X) := by
  have hne : M.g ≠ M.b := fun e => h.ne (by show 0 < M.n; omega) e.symm
  refine ⟨(heap_setCell_other _ _ _ _ hne).trans h.obj, ?_, h.n, fun i => ?_, h.ne⟩
  · obtain ⟨a, c, e1, e2, e3, e4⟩ := h.sl
    refine ⟨a, c, e1, e2, e3, fun hn => ⟨(e4 hn).1, ((e4 hn).2.set (i := at_ + j) _).congr fun i hi => ?_⟩⟩
    unfold bV
    rw [put_succ]
    by_cases e : i = at_ + j
    · simp [e]
    · simp [e]
  · rw [put_succ]
    show (if i = at_ + j then X j else (M.put at_ j X).B i) < 256
    split
    · exact hX _
    · exact h.lt _
theorem put_zero (M : MS) (at_ : Nat) (X : Nat → Nat) : M.put at_ 0 X = M := by
  unfold MS.put
  have : (fun j => if at_ ≤ j ∧ j < at_ + 0 then X (j - at_) else M.B j) = M.B := by funext j; rw [if_neg (by omega)]
  rw [this]
set_option maxHeartbeats 4000000 in
theorem store_any (M : MS) (a : Option Addr) (l c : Nat) (L : Nat → Reg) (at_ k x : Nat) (w : World) (h : MemAt w 57 M) (hL : RegsAt w a l L) (hl : l ≤ 9223372036854775807) (h1 : at_ < 4294967296) (h2 : k < 256) (hx : x < 4294967296) :
    Calls Try.prog 19 #[.pointer (some ⟨M.g, 0, none⟩), .slice a l c, .int .u32 (at_ : Int), .int .u8 (k : Int), .int .u32 (x : Int)] w fun e w' => e = .returned (.int .i64 (mayE M.n L l at_ k 2)) ∧ MemAt w' 57 (M.put at_ (mayM M.n L l at_ k 2) (stB x)) ∧ Only M.W w w' := by
  have H := Lib.hid h
  have HM := Lib.hid (may_any M a l c L at_ k 2 w h hL hl h1 h2 (by omega))
  have hm4 : mayM M.n L l at_ k 2 ≤ 4 := mayM_le (by omega)
  unfold MayPost at HM
  generalize mayE M.n L l at_ k 2 = E at *
  generalize mayM M.n L l at_ k 2 = m at *
  have hXl : Hid (∀ i, stB x i < 256) := fun i => Nat.mod_lt _ (by omega)
  have hn := h.n
  clear h hL
  go_enter Try.func19, Try.ntmps19
  go_wp2_with fail
  refine HM.out.mono ?_
  rintro e w1 ⟨⟨pa, pc, rfl, hp⟩, hb⟩
  have HP := Lib.hid hp
  have H1 : Hid (MemAt w1 57 (M.put at_ 0 (stB x))) := by rw [put_zero]; exact H.out.below hb
  have O1 : Hid (Only M.W w w1) := Only.of_below _ hb
  clear hp hb HM
  go_wp2_with fail
  go_loopw [24] (fun i wr => ∃ j : Nat, j ≤ m ∧ i = .int .i64 j ∧ MemAt wr 57 (M.put at_ j (stB x)) ∧ Only M.W w wr) (fun i _ => m - (intOf i).toNat)
  case atStart => exact ⟨0, Nat.zero_le _, rfl, H1.out, O1.out⟩
  case round =>
    obtain ⟨j, hj, rfl, hm, ho⟩ := hrel
    have HJ := Lib.hid hm; have OJ := Lib.hid ho
    clear hm ho
    by_cases hlt : j < m
    · have hj4 : j < 4 := by omega
      obtain ⟨rfl, hfit⟩ := HP.out.pos (by omega)
      obtain ⟨a', c', e1, e2, e3, e4⟩ := HJ.out.sl
      have hrow := (e4 (by show 0 < M.n; omega)).2
      have c1 : wr.cell? ⟨M.b, at_ + j, none⟩ = some (bV (M.put at_ j (stB x)).B (at_ + j)) := hrow.cell (by show at_ + j < M.n; omega)
      have f1 : wr.frozen? ⟨M.b, at_ + j, none⟩ = false := hrow.frozen _
      have hbl : M.b < wr.heap.size := hrow.lt
      unfold bV at c1
      generalize (M.put at_ j (stB x)).B (at_ + j) = old at *
      clear e1 e2 e3 e4 hrow
      have hji : (j : Int) < (m : Int) := by omega
      have hst := stB_cast x j
      have HF : Hid (at_ + j < M.n) := by show _ < _; omega
      go_wp2_with fail
      go_roundw
      case rel => exact ⟨j + 1, by omega, by go_num, HJ.out.put1 hXl.out HF.out, OJ.out.set _ _ (.inr ⟨by have := HF.out; omega, rfl⟩)⟩
      case measure => simp [intOf]; omega
    · obtain rfl : j = m := by omega
      go_wp2_with fail
      go_ret
      exact ⟨rfl, HJ.out, OJ.out⟩
set_option maxHeartbeats 2000000 in
theorem fetch_any (M : MS) (a : Option Addr) (l c : Nat) (L : Nat → Reg) (at_ : Nat) (w : World) (h : MemAt w 57 M) (hL : RegsAt w a l L) (hl : l ≤ 9223372036854775807) (h1 : at_ < 4294967296) :
    Calls Try.prog 21 #[.pointer (some ⟨M.g, 0, none⟩), .slice a l c, .int .u32 (at_ : Int)] w fun e w' => ∃ v, e = .returned (.tuple #[v, .int .i64 (mayE M.n L l at_ 8 4)]) ∧ GotAt w w' v (mayM M.n L l at_ 8 4) (fun i => M.B (at_ + i)) := by
  have H := Lib.hid h
  have HM : Hid (Calls Try.prog 29 #[.pointer (some ⟨M.g, 0, none⟩), .slice a l c, .int .u32 (at_ : Int), .int .u8 8, .int .u8 4] w (MayPost M L l at_ 8 4 w)) := may_any M a l c L at_ 8 4 w h hL hl h1 (by omega) (by omega)
  have hm4 : mayM M.n L l at_ 8 4 ≤ 8 := by unfold mayM; split <;> (try split) <;> omega
  unfold MayPost at HM
  generalize mayE M.n L l at_ 8 4 = E at *
  generalize mayM M.n L l at_ 8 4 = m at *
  clear h hL
  go_enter Try.func21, Try.ntmps21
  go_wp2_with fail
  refine HM.out.mono ?_
  rintro e w1 ⟨⟨pa, pc, rfl, hp⟩, hb⟩
  have HS := Lib.hid ((hp.at H.out).below hb)
  have HB := Lib.hid hb
  clear hp hb HM
  go_wp2_with fail
  refine (clone_u8 pa m pc (bV fun i => M.B (at_ + i)) w1 (bV_one _) (by omega) HS.out).mono ?_
  rintro e w2 ⟨v, rfl, ⟨b, hs, hf⟩, hb⟩
  have G : Hid (GotAt w w2 v m (fun i => M.B (at_ + i))) := ⟨⟨b, hs, fun hp => ⟨Nat.le_trans HB.out.size (hf hp).1, (hf hp).2⟩⟩, HB.out.trans (hb.mono HB.out.size)⟩
  clear hs hb hf
  go_wp2_with fail
  go_ret2
  exact ⟨_, rfl, G.out⟩
set_option maxHeartbeats 2000000 in
theorem fetch_nil (a : Option Addr) (l c : Nat) (at_ : Int) (w : World) (h1 : 0 ≤ at_ ∧ at_ < 4294967296) : Calls Try.prog 21 #[.pointer none, .slice a l c, .int .u32 at_] w fun e w' => ∃ v, e = .returned (.tuple #[v, .int .i64 1]) ∧ Below w.heap.size w w' := by
  go_enter Try.func21, Try.ntmps21
  go_wp2_with fail
  refine (may_nil a l c _ _ _ w).mono ?_
  rintro e w' ⟨rfl, rfl⟩
  go_wp2_with fail
  refine (clone_u8 none 0 0 (bV fun _ => 0) w (bV_one _) (by omega) (.inl rfl)).mono ?_
  rintro e w1 ⟨v, rfl, hs, hb⟩
  have B := Lib.hid hb
  clear hs hb
  go_wp2_with fail
  go_ret2
  exact ⟨_, rfl, B.out⟩
set_option maxHeartbeats 2000000 in
theorem store_nil (a : Option Addr) (l c : Nat) (at_ k x : Int) (w : World) (h1 : 0 ≤ at_ ∧ at_ < 4294967296) (h2 : 0 ≤ k ∧ k < 256) : Calls Try.prog 19 #[.pointer none, .slice a l c, .int .u32 at_, .int .u8 k, .int .u32 x] w fun e w' => e = .returned (.int .i64 1) ∧ w = w' := by
  go_enter Try.func19, Try.ntmps19
  go_wp2_with fail
  refine (may_nil a l c _ _ _ w).mono ?_
  rintro e w' ⟨rfl, rfl⟩
  go_wp2_with fail
  go_loopw [24] (fun i wr => i = .int .i64 0 ∧ wr = w) (fun i _ => 0)
  case atStart => exact ⟨rfl, rfl⟩
  case round =>
    obtain ⟨rfl, rfl⟩ := hrel
    go_wp2_with fail
    go_ret
    exact ⟨rfl, rfl⟩
set_option maxHeartbeats 2000000 in
theorem load_nil (a : Option Addr) (l c : Nat) (at_ k : Int) (w : World) (h1 : 0 ≤ at_ ∧ at_ < 4294967296) (h2 : 0 ≤ k ∧ k < 256) : Calls Try.prog 17 #[.pointer none, .slice a l c, .int .u32 at_, .int .u8 k] w fun e w' => e = .returned (.tuple #[.int .u32 0, .int .i64 1]) ∧ w = w' := by
  go_enter Try.func17, Try.ntmps17
  go_wp2_with fail
  refine (may_nil a l c _ _ _ w).mono ?_
  rintro e w' ⟨rfl, rfl⟩
  go_wp2_with fail
  go_loop [12, 25] (fun x i => i = .int .i64 0 ∧ x = .int .u32 0) (fun _ i => 0)
  case atStart => exact ⟨rfl, rfl⟩
  case round =>
    obtain ⟨rfl, rfl⟩ := hrel
    go_wp2_with fail
    go_ret2
    exact ⟨rfl, rfl⟩
end Go.Proofs.Ytfochgpjpngnlaa
