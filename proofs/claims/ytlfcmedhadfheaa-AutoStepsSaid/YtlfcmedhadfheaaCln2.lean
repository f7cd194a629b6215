/- Copies of an automaton's rows. -/
import Derived.Test.YtlfcmedhadfheaaCln
namespace Go.Proofs.Ytlfcmedhadfheaa
open Go.RowKit
set_option linter.unusedVariables false
set_option linter.unusedSimpArgs false
theorem info_clone_ar : (Try.prog.info? 48).map (fun i => (i.zero, i.size, i.bytes)) = some (some (.agg #[.int .u8 0, .int .u16 0, .int .u32 0, .int .u32 0]), 4, 12) := by kernel_rfl
set_option maxHeartbeats 2000000 in
theorem clone_ar (a : Option Addr) (n c : Nat) (V : Nat → Value) (w : World) (hV : ∀ i, i < n * 4 → (V i).oneCell' = true) (hn : n ≤ 1000000) (hs : SliceAt w a (n * 4) V) :
    Calls Try.prog 38 #[.slice a n c] w (ClnP w 48 n 4 V) := by
  cases a with
  | none =>
    have hn0 : n * 4 = 0 := hs.elim id (fun h => by obtain ⟨b, off, h, _⟩ := h; cases h)
    obtain rfl : n = 0 := by omega
    have hk : ∀ w : World, (binOp .eql 68 (.slice none 0 c) (.slice none 0 0)).run Try.prog w = .ok (.bool true) w := fun w => Lib.run_eql_slice_nil w _ _ none 0 c 0 0 Try.underlying68
    clear hs hV
    go_enter Try.func38, Try.ntmps38
    go_wp2_with fail
    go_ret
    exact ⟨_, rfl, ⟨0, ⟨none, 0, rfl, Nat.le_refl _, by unfold maxLen; omega, fun hp => absurd hp (by omega)⟩, fun hp => absurd hp (by omega)⟩, Below.refl _ _⟩
  | some ad =>
    obtain ⟨i0, hi, hz0, hz1, hz2⟩ := tb_info info_clone_ar
    have HIn := Lib.hid hi; have HZ0 := Lib.hid hz0; have HZ1 := Lib.hid hz1; have HZ2 := Lib.hid hz2
    have HS := Lib.hid hs
    have HV := Lib.hid hV
    clear hi hz0 hz1 hz2 hs hV
    have hk : ∀ w : World, (binOp .eql 68 (.slice (some ad) n c) (.slice none 0 0)).run Try.prog w = .ok (.bool false) w := fun w => Lib.run_eql_slice_nil w _ _ (some ad) n c 0 0 Try.underlying68
    go_enter Try.func38, Try.ntmps38
    have hown : ((w.alloc (.cells #[] 48)).ownsRow w.heap.size 48 4 (.slice (some ⟨w.heap.size, 0, none⟩) 0 0) 0 []) := ⟨rfl, .inr ⟨w.heap.size, 0, #[], rfl, Nat.le_refl _, heap_alloc_new _ _, Nat.le_refl _, by unfold maxLen; omega, rfl, rfl⟩⟩
    go_wp2_with (at_builtin; refine wpList_append_own _ rfl _ _ 68 rfl w.heap.size 48 i0 (.agg #[.int .u8 0, .int .u16 0, .int .u32 0, .int .u32 0]) 4 12 Try.underlying68 HIn.out HZ0.out HZ1.out HZ2.out rfl (by decide) _ 0 [] rfl hown ad n c ((List.range (n * 4)).map V) rfl (by simp) ?c1 ?c2 ?c3 ?c4 ?c5 ?_)
    case c1 =>
      intro j u h
      have hj : j < n * 4 := by
        by_cases e : j < n * 4
        · exact e
        · rw [List.getElem?_eq_none (by simp; omega)] at h; cases h
      obtain ⟨b', off, e, hlt, hc⟩ := HS.out.at (by omega)
      cases e
      rw [Go.WideShapes.add_plain, (Below.refl _ w).alloc (Nat.le_refl _) _ |>.cell hlt, hc j hj]
      rw [List.getElem?_map, List.getElem?_range hj] at h
      exact h
    case c2 => intro u hu; obtain ⟨i, hi, rfl⟩ := List.mem_map.1 hu; exact HV.out i (by simpa using hi)
    case c3 => unfold maxLen; omega
    case c4 => omega
    case c5 => simp
    intro v' w1 hown1 hgr _
    have hB : Hid (Below w.heap.size w w1) := ((Below.refl _ w).alloc (Nat.le_refl _) _).grown hgr (by simp) (fun k e => by simp [Value.ownBlock] at e; omega)
    try rw [Nat.zero_add] at hown1
    try rw [List.nil_append] at hown1
    have hSl := Lib.hid (SlN.of_own (V := V) hown1 (fun i hi => by rw [List.getElem?_map, List.getElem?_range (by omega)]; rfl))
    clear hown1 hgr hown hk
    go_wp2_with fail
    go_ret
    exact ⟨_, rfl, hSl.out, hB.out⟩
theorem info_clone_u8 : (Try.prog.info? 5).map (fun i => (i.zero, i.size, i.bytes)) = some (some (.int .u8 0), 1, 1) := by kernel_rfl
set_option maxHeartbeats 2000000 in
theorem clone_u8 (a : Option Addr) (n c : Nat) (V : Nat → Value) (w : World) (hV : ∀ i, i < n * 1 → (V i).oneCell' = true) (hn : n ≤ 1000000) (hs : SliceAt w a (n * 1) V) :
    Calls Try.prog 39 #[.slice a n c] w (ClnP w 5 n 1 V) := by
  cases a with
  | none =>
    have hn0 : n * 1 = 0 := hs.elim id (fun h => by obtain ⟨b, off, h, _⟩ := h; cases h)
    obtain rfl : n = 0 := by omega
    have hk : ∀ w : World, (binOp .eql 69 (.slice none 0 c) (.slice none 0 0)).run Try.prog w = .ok (.bool true) w := fun w => Lib.run_eql_slice_nil w _ _ none 0 c 0 0 Try.underlying69
    clear hs hV
    go_enter Try.func39, Try.ntmps39
    go_wp2_with fail
    go_ret
    exact ⟨_, rfl, ⟨0, ⟨none, 0, rfl, Nat.le_refl _, by unfold maxLen; omega, fun hp => absurd hp (by omega)⟩, fun hp => absurd hp (by omega)⟩, Below.refl _ _⟩
  | some ad =>
    obtain ⟨i0, hi, hz0, hz1, hz2⟩ := tb_info info_clone_u8
    have HIn := Lib.hid hi; have HZ0 := Lib.hid hz0; have HZ1 := Lib.hid hz1; have HZ2 := Lib.hid hz2
    have HS := Lib.hid hs
    have HV := Lib.hid hV
    clear hi hz0 hz1 hz2 hs hV
    have hk : ∀ w : World, (binOp .eql 69 (.slice (some ad) n c) (.slice none 0 0)).run Try.prog w = .ok (.bool false) w := fun w => Lib.run_eql_slice_nil w _ _ (some ad) n c 0 0 Try.underlying69
    go_enter Try.func39, Try.ntmps39
    have hown : ((w.alloc (.cells #[] 5)).ownsRow w.heap.size 5 1 (.slice (some ⟨w.heap.size, 0, none⟩) 0 0) 0 []) := ⟨rfl, .inr ⟨w.heap.size, 0, #[], rfl, Nat.le_refl _, heap_alloc_new _ _, Nat.le_refl _, by unfold maxLen; omega, rfl, rfl⟩⟩
    go_wp2_with (at_builtin; refine wpList_append_own _ rfl _ _ 69 rfl w.heap.size 5 i0 (.int .u8 0) 1 1 Try.underlying69 HIn.out HZ0.out HZ1.out HZ2.out rfl (by decide) _ 0 [] rfl hown ad n c ((List.range (n * 1)).map V) rfl (by simp) ?c1 ?c2 ?c3 ?c4 ?c5 ?_)
    case c1 =>
      intro j u h
      have hj : j < n * 1 := by
        by_cases e : j < n * 1
        · exact e
        · rw [List.getElem?_eq_none (by simp; omega)] at h; cases h
      obtain ⟨b', off, e, hlt, hc⟩ := HS.out.at (by omega)
      cases e
      rw [Go.WideShapes.add_plain, (Below.refl _ w).alloc (Nat.le_refl _) _ |>.cell hlt, hc j hj]
      rw [List.getElem?_map, List.getElem?_range hj] at h
      exact h
    case c2 => intro u hu; obtain ⟨i, hi, rfl⟩ := List.mem_map.1 hu; exact HV.out i (by simpa using hi)
    case c3 => unfold maxLen; omega
    case c4 => omega
    case c5 => simp
    intro v' w1 hown1 hgr _
    have hB : Hid (Below w.heap.size w w1) := ((Below.refl _ w).alloc (Nat.le_refl _) _).grown hgr (by simp) (fun k e => by simp [Value.ownBlock] at e; omega)
    try rw [Nat.zero_add] at hown1
    try rw [List.nil_append] at hown1
    have hSl := Lib.hid (SlN.of_own (V := V) hown1 (fun i hi => by rw [List.getElem?_map, List.getElem?_range (by omega)]; rfl))
    clear hown1 hgr hown hk
    go_wp2_with fail
    go_ret
    exact ⟨_, rfl, hSl.out, hB.out⟩
end Go.Proofs.Ytlfcmedhadfheaa
