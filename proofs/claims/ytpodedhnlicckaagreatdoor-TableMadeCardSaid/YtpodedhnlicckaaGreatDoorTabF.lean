/- ContainsFunc with any function; meets. Printed by gen_tabf.py. -/
import Derived.Test.YtpodedhnlicckaaGreatDoorTabL
namespace Go.Proofs.YtpodedhnlicckaaGreatDoor
open Go.RowKit
set_option linter.unusedVariables false
set_option linter.unusedSimpArgs false
theorem tb_alloc_below (V : World) (o : Obj) : Below V.heap.size V (V.alloc o) := (Below.refl _ V).alloc (Nat.le_refl _) o
theorem tb_kept {w w' : World} {g : Nat} {o : Obj} (h : w.heap[g]? = some o) (hb : Below w.heap.size w w') : w'.heap[g]? = some o := (hb.block g (heap_lt h)).trans h
theorem PtsAt.cell {w : World} {a : Option Addr} {n c : Nat} {l : List (Int × Bool)} (h : PtsAt w (.slice a n c) l) {i : Nat} (hi : i < l.length) : ∃ b off, a = some ⟨b, off, none⟩ ∧ b < w.heap.size ∧ w.cell? ⟨b, off + i * 2, none⟩ = some (.int .i64 (l.getD i (0, false)).1) ∧ w.cell? ⟨b, off + i * 2 + 1, none⟩ = some (.bool (l.getD i (0, false)).2) := by
  obtain ⟨a', c', e, _, _, hs⟩ := h.at_
  cases e
  obtain ⟨b, off, rfl, hb, hc⟩ := hs.at (by omega)
  exact ⟨b, off, rfl, hb, hc i hi 0 (by omega), hc i hi 1 (by omega)⟩
theorem PtsAt.size {w : World} {v : Value} {l : List (Int × Bool)} (h : PtsAt w v l) : l.length ≤ maxLen := by obtain ⟨a, c, _, h1, h2, _⟩ := h.at_; omega
theorem any_getD {α : Type} {l : List α} {d : α} {p : α → Bool} {k : Nat} (hk : k < l.length) (h : p (l.getD k d) = true) : l.any p = true := by
  rw [List.any_eq_true]
  refine ⟨l.getD k d, ?_, h⟩
  rw [List.getD_eq_getElem?_getD, List.getElem?_eq_getElem hk]
  exact List.getElem_mem hk
theorem any_none {α : Type} {l : List α} {d : α} {p : α → Bool} (h : ∀ k, k < l.length → p (l.getD k d) = false) : l.any p = false := by
  rw [List.any_eq_false]
  intro x hx
  obtain ⟨j, hj, e⟩ := List.mem_iff_getElem.1 hx
  have := h j hj
  rw [List.getD_eq_getElem?_getD, List.getElem?_eq_getElem hj] at this
  rw [← e]
  simpa using this
/-- What the function handed in answers, of the list's elements. -/
def Is_int (g : Nat) (lb : Array Value) (p : Int → Bool) (l : List Int) (w : World) : Prop :=
  ∀ i, i < l.length → ∀ W, Below w.heap.size w W → Calls Tryz.prog g (#[.int .i64 (l.getD i 0)] ++ lb) W fun e w' => e = .returned (.bool (p (l.getD i 0))) ∧ Below W.heap.size W w'
set_option maxHeartbeats 2000000 in
theorem indexF_int (v : Value) (l : List Int) (g : Nat) (lb : Array Value) (p : Int → Bool) (w : World) (h : IntsAt w v l) (eg : ∀ args w, (callFunc g args).run Tryz.prog w = .ok (.enter g args) w) (hp : Is_int g lb p l w) :
    Calls Tryz.prog 55 #[v, .func (.func g) #[] lb] w fun e w' => (∃ k : Int, e = .returned (.int .i64 k) ∧ decide (0 ≤ k) = l.any p) ∧ Below w.heap.size w w' := by
  have hsz := h.size
  unfold maxLen at hsz
  obtain ⟨a, c, rfl, hlc, hcm, _⟩ := h.at_
  have H := Lib.hid h; have HP := Lib.hid hp
  clear h hp
  go_enter Tryz.func55, Tryz.ntmps55
  go_wp2_with fail
  go_loopw [8] (fun i wr => ∃ k : Nat, k ≤ l.length ∧ i = .int .i64 k ∧ (∀ j, j < k → p (l.getD j 0) = false) ∧ Below w.heap.size w wr) (fun i _ => l.length - (intOf i).toNat)
  case atStart => exact ⟨0, Nat.zero_le _, rfl, fun j hj => absurd hj (by omega), Below.refl _ _⟩
  case round =>
    obtain ⟨k, hk, rfl, hno, hb1⟩ := hrel
    obtain ⟨w1, rfl⟩ : ∃ w1 : World, w1 = wr := ⟨_, rfl⟩
    have NO := Lib.hid hno; have B1 := Lib.hid hb1
    clear hno hb1
    by_cases hlt : k < l.length
    · obtain ⟨b, off, rfl, hb, x0⟩ := (H.out.below B1.out).cell hlt
      have HC := Lib.hid (HP.out k hlt w1 B1.out)
      cases hx : p (l.getD k 0)
      case true =>
        have HT : Hid (l.any p = true) := any_getD hlt hx
        rw [hx] at HC
        clear hx
        generalize l.getD k 0 = y at *
        go_wp2_with fail
        refine HC.out.mono ?_
        rintro e w2 ⟨rfl, hb2⟩
        have B2 := Lib.hid (B1.out.trans (hb2.mono B1.out.size))
        clear hb2 x0
        go_wp2_with fail
        go_ret
        exact ⟨⟨_, rfl, by rw [HT.out]; simp⟩, B2.out⟩
      case false =>
        rw [hx] at HC
        have HX := Lib.hid hx
        clear hx
        generalize hy : l.getD k 0 = y at *
        have HY := Lib.hid hy
        clear hy
        go_wp2_with fail
        refine HC.out.mono ?_
        rintro e w2 ⟨rfl, hb2⟩
        have B2 := Lib.hid (B1.out.trans (hb2.mono B1.out.size))
        clear hb2 x0
        go_wp2_with fail
        go_roundw
        case rel => exact ⟨k + 1, by omega, by go_num, fun j hj => (by
          by_cases e : j < k
          · exact NO.out j e
          · obtain rfl : j = k := by omega
            rw [HY.out]; exact HX.out), B2.out⟩
        case measure => simp [intOf]; omega
    · obtain rfl : k = l.length := by omega
      have HF : Hid (l.any p = false) := any_none NO.out
      go_wp2_with fail
      go_ret
      exact ⟨⟨_, rfl, by rw [HF.out]; rfl⟩, B1.out⟩
theorem containsF_int (v : Value) (l : List Int) (g : Nat) (lb : Array Value) (p : Int → Bool) (w : World) (h : IntsAt w v l) (eg : ∀ args w, (callFunc g args).run Tryz.prog w = .ok (.enter g args) w) (hp : Is_int g lb p l w) :
    Calls Tryz.prog 34 #[v, .func (.func g) #[] lb] w fun e w' => e = .returned (.bool (l.any p)) ∧ Below w.heap.size w w' := by
  have HI := Lib.hid (indexF_int v l g lb p w h eg hp)
  clear h hp eg
  generalize l.any p = r at *
  go_enter Tryz.func34, Tryz.ntmps34
  go_wp2_with fail
  refine HI.out.mono ?_
  rintro e w2 ⟨⟨k, rfl, hk⟩, hb⟩
  have B2 := Lib.hid hb
  clear hb
  go_wp2_with fail
  go_ret
  exact ⟨rfl, B2.out⟩
/-- What the function handed in answers, of the list's elements. -/
def Is_pt (g : Nat) (lb : Array Value) (p : (Int × Bool) → Bool) (l : List (Int × Bool)) (w : World) : Prop :=
  ∀ i, i < l.length → ∀ W, Below w.heap.size w W → Calls Tryz.prog g (#[.agg #[.int .i64 (l.getD i (0, false)).1, .bool (l.getD i (0, false)).2]] ++ lb) W fun e w' => e = .returned (.bool (p (l.getD i (0, false)))) ∧ Below W.heap.size W w'
set_option maxHeartbeats 2000000 in
theorem indexF_pt (v : Value) (l : List (Int × Bool)) (g : Nat) (lb : Array Value) (p : (Int × Bool) → Bool) (w : World) (h : PtsAt w v l) (eg : ∀ args w, (callFunc g args).run Tryz.prog w = .ok (.enter g args) w) (hp : Is_pt g lb p l w) :
    Calls Tryz.prog 121 #[v, .func (.func g) #[] lb] w fun e w' => (∃ k : Int, e = .returned (.int .i64 k) ∧ decide (0 ≤ k) = l.any p) ∧ Below w.heap.size w w' := by
  have hsz := h.size
  unfold maxLen at hsz
  obtain ⟨a, c, rfl, hlc, hcm, _⟩ := h.at_
  have H := Lib.hid h; have HP := Lib.hid hp
  clear h hp
  go_enter Tryz.func121, Tryz.ntmps121
  go_wp2_with fail
  go_loopw [8] (fun i wr => ∃ k : Nat, k ≤ l.length ∧ i = .int .i64 k ∧ (∀ j, j < k → p (l.getD j (0, false)) = false) ∧ Below w.heap.size w wr) (fun i _ => l.length - (intOf i).toNat)
  case atStart => exact ⟨0, Nat.zero_le _, rfl, fun j hj => absurd hj (by omega), Below.refl _ _⟩
  case round =>
    obtain ⟨k, hk, rfl, hno, hb1⟩ := hrel
    obtain ⟨w1, rfl⟩ : ∃ w1 : World, w1 = wr := ⟨_, rfl⟩
    have NO := Lib.hid hno; have B1 := Lib.hid hb1
    clear hno hb1
    by_cases hlt : k < l.length
    · obtain ⟨b, off, rfl, hb, x0, x1⟩ := (H.out.below B1.out).cell hlt
      have HC := Lib.hid (HP.out k hlt w1 B1.out)
      cases hx : p (l.getD k (0, false))
      case true =>
        have HT : Hid (l.any p = true) := any_getD hlt hx
        rw [hx] at HC
        clear hx
        generalize l.getD k (0, false) = y at *
        go_wp2_with fail
        refine HC.out.mono ?_
        rintro e w2 ⟨rfl, hb2⟩
        have B2 := Lib.hid (B1.out.trans (hb2.mono B1.out.size))
        clear hb2 x0 x1
        go_wp2_with fail
        go_ret
        exact ⟨⟨_, rfl, by rw [HT.out]; simp⟩, B2.out⟩
      case false =>
        rw [hx] at HC
        have HX := Lib.hid hx
        clear hx
        generalize hy : l.getD k (0, false) = y at *
        have HY := Lib.hid hy
        clear hy
        go_wp2_with fail
        refine HC.out.mono ?_
        rintro e w2 ⟨rfl, hb2⟩
        have B2 := Lib.hid (B1.out.trans (hb2.mono B1.out.size))
        clear hb2 x0 x1
        go_wp2_with fail
        go_roundw
        case rel => exact ⟨k + 1, by omega, by go_num, fun j hj => (by
          by_cases e : j < k
          · exact NO.out j e
          · obtain rfl : j = k := by omega
            rw [HY.out]; exact HX.out), B2.out⟩
        case measure => simp [intOf]; omega
    · obtain rfl : k = l.length := by omega
      have HF : Hid (l.any p = false) := any_none NO.out
      go_wp2_with fail
      go_ret
      exact ⟨⟨_, rfl, by rw [HF.out]; rfl⟩, B1.out⟩
theorem containsF_pt (v : Value) (l : List (Int × Bool)) (g : Nat) (lb : Array Value) (p : (Int × Bool) → Bool) (w : World) (h : PtsAt w v l) (eg : ∀ args w, (callFunc g args).run Tryz.prog w = .ok (.enter g args) w) (hp : Is_pt g lb p l w) :
    Calls Tryz.prog 97 #[v, .func (.func g) #[] lb] w fun e w' => e = .returned (.bool (l.any p)) ∧ Below w.heap.size w w' := by
  have HI := Lib.hid (indexF_pt v l g lb p w h eg hp)
  clear h hp eg
  generalize l.any p = r at *
  go_enter Tryz.func97, Tryz.ntmps97
  go_wp2_with fail
  refine HI.out.mono ?_
  rintro e w2 ⟨⟨k, rfl, hk⟩, hb⟩
  have B2 := Lib.hid hb
  clear hb
  go_wp2_with fail
  go_ret
  exact ⟨rfl, B2.out⟩
end Go.Proofs.YtpodedhnlicckaaGreatDoor
