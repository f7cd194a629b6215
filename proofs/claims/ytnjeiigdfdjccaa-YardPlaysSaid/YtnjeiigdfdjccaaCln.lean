/- slices.Clone, of elements of several cells. -/
import Derived.Test.YtnjeiigdfdjccaaAutSt
import Derived.Laws.Small
import Derived.Lib.SliceRun
namespace Go.Proofs.Ytnjeiigdfdjccaa
open Go.RowKit
set_option linter.unusedVariables false
set_option linter.unusedSimpArgs false
/-- A slice of n elements of sz cells each, at the head of block b: its cells in a row. -/
def SlN (w : World) (v : Value) (b : Nat) (t : TypeId) (n sz : Nat) (V : Nat → Value) : Prop := ∃ a c, v = .slice a n c ∧ n ≤ c ∧ c ≤ maxLen ∧ (0 < n → a = some ⟨b, 0, none⟩ ∧ RowAt w b t (n * sz) V)
theorem SlN.of_own {w : World} {base n sz : Nat} {v : Value} {xs : List Value} {t : TypeId} {V : Nat → Value} (h : w.ownsRow base t sz v n xs) (hV : ∀ i, i < n * sz → xs[i]? = some (V i)) : ∃ b, SlN w v b t n sz V ∧ (0 < n → base ≤ b ∧ b < w.heap.size) := by
  rcases h.2 with ⟨rfl, h0⟩ | ⟨g, cap, cur, rfl, hb, hg, hn, hm, hs, htk⟩
  · subst h0; exact ⟨0, ⟨none, 0, rfl, by omega, by unfold maxLen; omega, fun hp => absurd hp (by omega)⟩, fun hp => absurd hp (by omega)⟩
  · refine ⟨g, ⟨_, cap, rfl, hn, hm, fun _ => ⟨rfl, cur, hg, ?_, fun i hi => ?_⟩⟩, fun _ => ⟨hb, heap_lt hg⟩⟩
    · have := Nat.mul_le_mul_right sz hn
      omega
    · have := hV i hi
      rw [← htk, List.getElem?_take, if_pos (by omega)] at this
      simpa using this
theorem SlN.slice {w : World} {v : Value} {b n sz : Nat} {t : TypeId} {V : Nat → Value} (h : SlN w v b t n sz V) : ∃ a c, v = .slice a n c ∧ n ≤ c ∧ c ≤ maxLen ∧ SliceAt w a (n * sz) V := by
  obtain ⟨a, c, h1, h2, h3, h4⟩ := h
  refine ⟨a, c, h1, h2, h3, ?_⟩
  by_cases hn : n = 0
  · subst hn; left; omega
  · obtain ⟨rfl, hr⟩ := h4 (by omega)
    exact .inr ⟨b, 0, rfl, hr.lt, fun i hi => by rw [Nat.zero_add]; exact hr.cell hi⟩
theorem SliceN.flat {w : World} {a : Option Addr} {n sz : Nat} {C : Nat → Nat → Value} (hs : 0 < sz) (h : SliceN w a n sz C) : SliceAt w a (n * sz) (fun q => C (q / sz) (q % sz)) := by
  rcases h with h | ⟨b, off, rfl, hb, hc⟩
  · left; rw [h, Nat.zero_mul]
  · refine .inr ⟨b, off, rfl, hb, fun q hq => ?_⟩
    have h1 : q / sz < n := Nat.div_lt_of_lt_mul (by rw [Nat.mul_comm]; exact hq)
    have := hc (q / sz) h1 (q % sz) (Nat.mod_lt _ hs)
    rw [← this]
    congr 2
    have := Nat.div_add_mod q sz
    rw [Nat.mul_comm] at this
    omega
theorem SliceAt.split {w : World} {a : Option Addr} {n sz : Nat} {V : Nat → Value} (hz : 0 < sz) (h : SliceAt w a (n * sz) V) : SliceN w a n sz (fun i j => V (i * sz + j)) := by
  rcases h with h | ⟨b, off, rfl, hb, hc⟩
  · left
    rcases Nat.mul_eq_zero.1 h with h | h
    · exact h
    · omega
  · refine .inr ⟨b, off, rfl, hb, fun i hi j hj => ?_⟩
    rw [Nat.add_assoc]
    refine hc _ ?_
    calc i * sz + j < i * sz + sz := by omega
      _ = (i + 1) * sz := by rw [Nat.succ_mul]
      _ ≤ n * sz := Nat.mul_le_mul_right _ hi
/-- What a clone leaves. -/
def ClnP (w : World) (t : TypeId) (n sz : Nat) (V : Nat → Value) (e : Ending) (w' : World) : Prop := ∃ v, e = .returned v ∧ (∃ b, SlN w' v b t n sz V ∧ (0 < n → w.heap.size ≤ b ∧ b < w'.heap.size)) ∧ Below w.heap.size w w'
theorem info_clone_int : (Try.prog.info? 3).map (fun i => (i.zero, i.size, i.bytes)) = some (some (.int .i64 0), 1, 8) := by kernel_rfl
set_option maxHeartbeats 2000000 in
theorem clone_int (a : Option Addr) (n c : Nat) (V : Nat → Value) (w : World) (hV : ∀ i, i < n * 1 → (V i).oneCell' = true) (hn : n ≤ 1000000) (hs : SliceAt w a (n * 1) V) :
    Calls Try.prog 42 #[.slice a n c] w (ClnP w 3 n 1 V) := by
  cases a with
  | none =>
    have hn0 : n * 1 = 0 := hs.elim id (fun h => by obtain ⟨b, off, h, _⟩ := h; cases h)
    obtain rfl : n = 0 := by omega
    have hk : ∀ w : World, (binOp .eql 22 (.slice none 0 c) (.slice none 0 0)).run Try.prog w = .ok (.bool true) w := fun w => Lib.run_eql_slice_nil w _ _ none 0 c 0 0 Try.underlying22
    clear hs hV
    go_enter Try.func42, Try.ntmps42
    go_wp2_with fail
    go_ret
    exact ⟨_, rfl, ⟨0, ⟨none, 0, rfl, Nat.le_refl _, by unfold maxLen; omega, fun hp => absurd hp (by omega)⟩, fun hp => absurd hp (by omega)⟩, Below.refl _ _⟩
  | some ad =>
    obtain ⟨i0, hi, hz0, hz1, hz2⟩ := tb_info info_clone_int
    have HIn := Lib.hid hi; have HZ0 := Lib.hid hz0; have HZ1 := Lib.hid hz1; have HZ2 := Lib.hid hz2
    have HS := Lib.hid hs
    have HV := Lib.hid hV
    clear hi hz0 hz1 hz2 hs hV
    have hk : ∀ w : World, (binOp .eql 22 (.slice (some ad) n c) (.slice none 0 0)).run Try.prog w = .ok (.bool false) w := fun w => Lib.run_eql_slice_nil w _ _ (some ad) n c 0 0 Try.underlying22
    go_enter Try.func42, Try.ntmps42
    have hown : ((w.alloc (.cells #[] 3)).ownsRow w.heap.size 3 1 (.slice (some ⟨w.heap.size, 0, none⟩) 0 0) 0 []) := ⟨rfl, .inr ⟨w.heap.size, 0, #[], rfl, Nat.le_refl _, heap_alloc_new _ _, Nat.le_refl _, by unfold maxLen; omega, rfl, rfl⟩⟩
    go_wp2_with (at_builtin; refine wpList_append_own _ rfl _ _ 22 rfl w.heap.size 3 i0 (.int .i64 0) 1 8 Try.underlying22 HIn.out HZ0.out HZ1.out HZ2.out rfl (by decide) _ 0 [] rfl hown ad n c ((List.range (n * 1)).map V) rfl (by simp) ?c1 ?c2 ?c3 ?c4 ?c5 ?_)
    case c1 =>
      intro j u h
      have hj : j < n * 1 := by
        by_cases e : j < n * 1
        · exact e
        · rw [List.getElem?_eq_none (by simp; omega)] at h; cases h
      obtain ⟨b', off, e, hlt, hc⟩ := HS.out.at (by omega)
      cases e
      rw [Go.WideShapes.add_plain, (Below.refl _ w).alloc (Nat.le_refl _) _ |>.cell hlt, hc j hj]
      rw [List.getElem?_map, List.getElem?_range hj] at h
      exact h
    case c2 => intro u hu; obtain ⟨i, hi, rfl⟩ := List.mem_map.1 hu; exact HV.out i (by simpa using hi)
    case c3 => unfold maxLen; omega
    case c4 => omega
    case c5 => simp
    intro v' w1 hown1 hgr _
    have hB : Hid (Below w.heap.size w w1) := ((Below.refl _ w).alloc (Nat.le_refl _) _).grown hgr (by simp) (fun k e => by simp [Value.ownBlock] at e; omega)
    try rw [Nat.zero_add] at hown1
    try rw [List.nil_append] at hown1
    have hSl := Lib.hid (SlN.of_own (V := V) hown1 (fun i hi => by rw [List.getElem?_map, List.getElem?_range (by omega)]; rfl))
    clear hown1 hgr hown hk
    go_wp2_with fail
    go_ret
    exact ⟨_, rfl, hSl.out, hB.out⟩
theorem info_clone_pt : (Try.prog.info? 107).map (fun i => (i.zero, i.size, i.bytes)) = some (some (.agg #[.int .i64 0, .bool false]), 2, 16) := by kernel_rfl
set_option maxHeartbeats 2000000 in
theorem clone_pt (a : Option Addr) (n c : Nat) (V : Nat → Value) (w : World) (hV : ∀ i, i < n * 2 → (V i).oneCell' = true) (hn : n ≤ 1000000) (hs : SliceAt w a (n * 2) V) :
    Calls Try.prog 44 #[.slice a n c] w (ClnP w 107 n 2 V) := by
  cases a with
  | none =>
    have hn0 : n * 2 = 0 := hs.elim id (fun h => by obtain ⟨b, off, h, _⟩ := h; cases h)
    obtain rfl : n = 0 := by omega
    have hk : ∀ w : World, (binOp .eql 38 (.slice none 0 c) (.slice none 0 0)).run Try.prog w = .ok (.bool true) w := fun w => Lib.run_eql_slice_nil w _ _ none 0 c 0 0 Try.underlying38
    clear hs hV
    go_enter Try.func44, Try.ntmps44
    go_wp2_with fail
    go_ret
    exact ⟨_, rfl, ⟨0, ⟨none, 0, rfl, Nat.le_refl _, by unfold maxLen; omega, fun hp => absurd hp (by omega)⟩, fun hp => absurd hp (by omega)⟩, Below.refl _ _⟩
  | some ad =>
    obtain ⟨i0, hi, hz0, hz1, hz2⟩ := tb_info info_clone_pt
    have HIn := Lib.hid hi; have HZ0 := Lib.hid hz0; have HZ1 := Lib.hid hz1; have HZ2 := Lib.hid hz2
    have HS := Lib.hid hs
    have HV := Lib.hid hV
    clear hi hz0 hz1 hz2 hs hV
    have hk : ∀ w : World, (binOp .eql 38 (.slice (some ad) n c) (.slice none 0 0)).run Try.prog w = .ok (.bool false) w := fun w => Lib.run_eql_slice_nil w _ _ (some ad) n c 0 0 Try.underlying38
    go_enter Try.func44, Try.ntmps44
    have hown : ((w.alloc (.cells #[] 107)).ownsRow w.heap.size 107 2 (.slice (some ⟨w.heap.size, 0, none⟩) 0 0) 0 []) := ⟨rfl, .inr ⟨w.heap.size, 0, #[], rfl, Nat.le_refl _, heap_alloc_new _ _, Nat.le_refl _, by unfold maxLen; omega, rfl, rfl⟩⟩
    go_wp2_with (at_builtin; refine wpList_append_own _ rfl _ _ 38 rfl w.heap.size 107 i0 (.agg #[.int .i64 0, .bool false]) 2 16 Try.underlying38 HIn.out HZ0.out HZ1.out HZ2.out rfl (by decide) _ 0 [] rfl hown ad n c ((List.range (n * 2)).map V) rfl (by simp) ?c1 ?c2 ?c3 ?c4 ?c5 ?_)
    case c1 =>
      intro j u h
      have hj : j < n * 2 := by
        by_cases e : j < n * 2
        · exact e
        · rw [List.getElem?_eq_none (by simp; omega)] at h; cases h
      obtain ⟨b', off, e, hlt, hc⟩ := HS.out.at (by omega)
      cases e
      rw [Go.WideShapes.add_plain, (Below.refl _ w).alloc (Nat.le_refl _) _ |>.cell hlt, hc j hj]
      rw [List.getElem?_map, List.getElem?_range hj] at h
      exact h
    case c2 => intro u hu; obtain ⟨i, hi, rfl⟩ := List.mem_map.1 hu; exact HV.out i (by simpa using hi)
    case c3 => unfold maxLen; omega
    case c4 => omega
    case c5 => simp
    intro v' w1 hown1 hgr _
    have hB : Hid (Below w.heap.size w w1) := ((Below.refl _ w).alloc (Nat.le_refl _) _).grown hgr (by simp) (fun k e => by simp [Value.ownBlock] at e; omega)
    try rw [Nat.zero_add] at hown1
    try rw [List.nil_append] at hown1
    have hSl := Lib.hid (SlN.of_own (V := V) hown1 (fun i hi => by rw [List.getElem?_map, List.getElem?_range (by omega)]; rfl))
    clear hown1 hgr hown hk
    go_wp2_with fail
    go_ret
    exact ⟨_, rfl, hSl.out, hB.out⟩
theorem info_clone_rt : (Try.prog.info? 41).map (fun i => (i.zero, i.size, i.bytes)) = some (some (.agg #[.int .i64 0, .slice none 0 0, .slice none 0 0, .int .i64 0, .slice none 0 0, .int .u16 0]), 6, 96) := by kernel_rfl
set_option maxHeartbeats 2000000 in
theorem clone_rt (a : Option Addr) (n c : Nat) (V : Nat → Value) (w : World) (hV : ∀ i, i < n * 6 → (V i).oneCell' = true) (hn : n ≤ 1000000) (hs : SliceAt w a (n * 6) V) :
    Calls Try.prog 43 #[.slice a n c] w (ClnP w 41 n 6 V) := by
  cases a with
  | none =>
    have hn0 : n * 6 = 0 := hs.elim id (fun h => by obtain ⟨b, off, h, _⟩ := h; cases h)
    obtain rfl : n = 0 := by omega
    have hk : ∀ w : World, (binOp .eql 23 (.slice none 0 c) (.slice none 0 0)).run Try.prog w = .ok (.bool true) w := fun w => Lib.run_eql_slice_nil w _ _ none 0 c 0 0 Try.underlying23
    clear hs hV
    go_enter Try.func43, Try.ntmps43
    go_wp2_with fail
    go_ret
    exact ⟨_, rfl, ⟨0, ⟨none, 0, rfl, Nat.le_refl _, by unfold maxLen; omega, fun hp => absurd hp (by omega)⟩, fun hp => absurd hp (by omega)⟩, Below.refl _ _⟩
  | some ad =>
    obtain ⟨i0, hi, hz0, hz1, hz2⟩ := tb_info info_clone_rt
    have HIn := Lib.hid hi; have HZ0 := Lib.hid hz0; have HZ1 := Lib.hid hz1; have HZ2 := Lib.hid hz2
    have HS := Lib.hid hs
    have HV := Lib.hid hV
    clear hi hz0 hz1 hz2 hs hV
    have hk : ∀ w : World, (binOp .eql 23 (.slice (some ad) n c) (.slice none 0 0)).run Try.prog w = .ok (.bool false) w := fun w => Lib.run_eql_slice_nil w _ _ (some ad) n c 0 0 Try.underlying23
    go_enter Try.func43, Try.ntmps43
    have hown : ((w.alloc (.cells #[] 41)).ownsRow w.heap.size 41 6 (.slice (some ⟨w.heap.size, 0, none⟩) 0 0) 0 []) := ⟨rfl, .inr ⟨w.heap.size, 0, #[], rfl, Nat.le_refl _, heap_alloc_new _ _, Nat.le_refl _, by unfold maxLen; omega, rfl, rfl⟩⟩
    go_wp2_with (at_builtin; refine wpList_append_own _ rfl _ _ 23 rfl w.heap.size 41 i0 (.agg #[.int .i64 0, .slice none 0 0, .slice none 0 0, .int .i64 0, .slice none 0 0, .int .u16 0]) 6 96 Try.underlying23 HIn.out HZ0.out HZ1.out HZ2.out rfl (by decide) _ 0 [] rfl hown ad n c ((List.range (n * 6)).map V) rfl (by simp) ?c1 ?c2 ?c3 ?c4 ?c5 ?_)
    case c1 =>
      intro j u h
      have hj : j < n * 6 := by
        by_cases e : j < n * 6
        · exact e
        · rw [List.getElem?_eq_none (by simp; omega)] at h; cases h
      obtain ⟨b', off, e, hlt, hc⟩ := HS.out.at (by omega)
      cases e
      rw [Go.WideShapes.add_plain, (Below.refl _ w).alloc (Nat.le_refl _) _ |>.cell hlt, hc j hj]
      rw [List.getElem?_map, List.getElem?_range hj] at h
      exact h
    case c2 => intro u hu; obtain ⟨i, hi, rfl⟩ := List.mem_map.1 hu; exact HV.out i (by simpa using hi)
    case c3 => unfold maxLen; omega
    case c4 => omega
    case c5 => simp
    intro v' w1 hown1 hgr _
    have hB : Hid (Below w.heap.size w w1) := ((Below.refl _ w).alloc (Nat.le_refl _) _).grown hgr (by simp) (fun k e => by simp [Value.ownBlock] at e; omega)
    try rw [Nat.zero_add] at hown1
    try rw [List.nil_append] at hown1
    have hSl := Lib.hid (SlN.of_own (V := V) hown1 (fun i hi => by rw [List.getElem?_map, List.getElem?_range (by omega)]; rfl))
    clear hown1 hgr hown hk
    go_wp2_with fail
    go_ret
    exact ⟨_, rfl, hSl.out, hB.out⟩
end Go.Proofs.Ytnjeiigdfdjccaa
