/- Itoa; the writer's number. -/
import Derived.Test.YtpodedhnlicckaaGreatDoorTbNu
import Derived.Deep.CutRange
namespace Go.Proofs.YtpodedhnlicckaaGreatDoor
open Go.Shelf Go.RowKit Go.Sort
set_option linter.unusedVariables false
set_option linter.unusedSimpArgs false
def GlobLow (B : Nat) : Prop := ∀ gn, Tryz.prog.globalNamed "internal/strconv.uint64pow10" = some gn → gn < B
theorem TabW.low {B : Nat} {w w' : World} (h : TabW w) (hG : GlobLow B) (hb : Below B w w') : TabW w' := by
  obtain ⟨gn, hg⟩ : ∃ gn, Tryz.prog.globalNamed "internal/strconv.uint64pow10" = some gn := Option.isSome_iff_exists.1 (by kernel_rfl)
  have hlt := hG gn hg
  unfold TabW Lib.TabIs World.var? at *
  rw [hg] at h ⊢
  simp only [Option.bind_some] at h ⊢
  rw [hb.block gn hlt]
  exact h
theorem WrAt.kept {B b : Nat} {l : List UInt8} {bad : Bool} {w w' : World} (h : WrAt B b l bad w) (hb : Below w.heap.size w w') : WrAt B b l bad w' := by
  obtain ⟨hB, p, v, hp, h1, h2, h3⟩ := h
  refine ⟨hB, p, v, hp, (hb.block b (heap_lt h1)).trans h1, ⟨h2.1, ?_⟩, h3⟩
  rcases h2.2 with h0 | ⟨g, cap, cur, fz, rfl, k1, k2, k3⟩
  · exact .inl h0
  · exact .inr ⟨g, cap, cur, fz, rfl, k1, (hb.block g (heap_lt k2)).trans k2, k3⟩
theorem kept_below {b : Option Nat} {w w' : World} (hb : Below w.heap.size w w') : Lib.OthersKept 5 b w w' := fun k o hk _ _ => by
  have hlt : k < w.heap.size := by
    rcases Nat.lt_or_ge k w.heap.size with h | h
    · exact h
    · rw [Array.getElem?_eq_none h] at hk; cases hk
  rw [hb.block k hlt]; exact hk
theorem put_alloc2 (B b : Nat) (l : List UInt8) (bad : Bool) (s t : ByteArray) (w : World) (h : WrAt B b l bad w) (hB : B ≤ w.heap.size) (hlen : ∀ k, (putL l ([s, t].take k)).length ≤ 100000000) (hsz : ∀ x ∈ [s, t], x.size ≤ 1000000) :
    Calls Tryz.prog 83 #[.pointer (some ⟨b, 0, none⟩), .slice (some ⟨w.heap.size, 0, none⟩) 2 2] (w.alloc (.cells #[.string s, .string t] 9)) fun e w' => e = .returned (.tuple #[]) ∧ WrAt B b (putL l [s, t]) bad w' ∧ Below B w w' ∧ Lib.OthersKept 5 (some b) w w' := by
  have hlt : b < w.heap.size := by obtain ⟨_, p, v, _, h, _⟩ := h; exact heap_lt h
  have hb1 : Below w.heap.size w (w.alloc (.cells #[.string s, .string t] 9)) := (Below.refl _ _).alloc (Nat.le_refl _) _
  refine (put_any B b w.heap.size l bad [s, t] 2 _ (h.kept hb1) (heap_alloc_new _ _) (by omega) (show 2 ≤ 1000 by omega) hlen hsz (Nat.le_trans hB hb1.size)).mono ?_
  rintro e w' ⟨rfl, h1, h2, h3⟩
  exact ⟨rfl, h1, (hb1.mono hB).trans h2, (kept_below hb1).trans h3⟩
def offR (n : Int) : Bool := decide (n < 0) || decide (65535 < n)
set_option maxHeartbeats 2000000 in
set_option maxRecDepth 100000 in
theorem wnum_any (B b : Nat) (l : List UInt8) (bad : Bool) (word : ByteArray) (n : Int) (w : World) (h : WrAt B b l bad w) (h0 : -9223372036854775808 ≤ n) (h1 : n ≤ 9223372036854775807) (hT : TabW w) (hG : GlobLow B) (hBw : B ≤ w.heap.size) (hlen : ∀ k, (putL l ([word, itoaB n].take k)).length ≤ 100000000) (hsz : ∀ s ∈ [word, itoaB n], s.size ≤ 1000000) :
    Calls Tryz.prog 43 #[.pointer (some ⟨b, 0, none⟩), .string word, .int .i64 n] w fun e w' => e = .returned (.tuple #[]) ∧ WrAt B b (putL l [word, itoaB n]) (bad || offR n) w' ∧ Below B w w' ∧ Lib.OthersKept 5 (some b) w w' := by
  obtain ⟨hB, p, v, hp, hb, ho, hne⟩ := h
  have c2 : w.cell? ⟨b, 2, none⟩ = some (.bool bad) := cell_row hb rfl
  have e2 : w.frozen? ⟨b, 2, none⟩ = false := frozen_of_row _ _ _ _ _ hb
  cases bad with
  | true =>
    go_enter Tryz.func43, Tryz.ntmps43
    have HSET : Hid (WrAt B b l true (w.setCell ⟨b, 2, none⟩ (.bool true))) := ⟨hB, p, v, hp, heap_setCell_same _ _ _ _ _ _ hb, ownF_set ho hne, hne⟩
    have HBL : Hid (Below B w (w.setCell ⟨b, 2, none⟩ (.bool true))) := (Below.refl B w).setCell (p := ⟨b, 2, none⟩) hB _
    have HOK : Hid (Lib.OthersKept 5 (some b) w (w.setCell ⟨b, 2, none⟩ (.bool true))) := (Lib.OthersKept.refl _ _ w).setCell ⟨b, 2, none⟩ rfl _
    go_upto_region 1 with fail
    generalize w.setCell ⟨b, 2, none⟩ (.bool true) = w1 at *
    clear c2 e2
    go_wp2_with fail
    refine (itoa_any n h0 h1 w1 (hT.low hG HBL.out)).mono ?_
    rintro e w2 ⟨rfl, hb2⟩
    have HW2 : Hid (WrAt B b l true w2) := HSET.out.kept hb2
    have HB2 : Hid (Below B w w2) := HBL.out.trans (hb2.mono (Nat.le_trans hBw HBL.out.size))
    have HO2 : Hid (Lib.OthersKept 5 (some b) w w2) := HOK.out.trans (kept_below hb2)
    have HBZ : Hid (B ≤ w2.heap.size) := Nat.le_trans hBw HB2.out.size
    clear hb2 HSET HBL HOK
    have HPU := Lib.hid (put_alloc2 B b l true word (itoaB n) w2 HW2.out (HBZ.out) hlen hsz)
    go_wp2_with fail
    refine HPU.out.mono ?_
    rintro e w4 ⟨rfl, hu, hb4, ho4⟩
    have HU := Lib.hid hu
    have HB4 := Lib.hid (HB2.out.trans hb4); have HO4 := Lib.hid (HO2.out.trans ho4)
    clear hu hb4 ho4 HPU HB2 HO2
    go_wp2_with fail
    go_end0
    exact ⟨rfl, by first | (rw [HX.out]; exact HU.out) | exact HU.out, HB4.out, HO4.out⟩
  | false =>
    rw [Bool.false_or]
    by_cases n0 : n < 0
    · have t1 : decide (n < 0) = true := decide_eq_true n0
      have HX : Hid (offR n = true) := by show _ = _; unfold offR; rw [t1]; rfl
      clear n0
      go_enter Tryz.func43, Tryz.ntmps43
      have HSET : Hid (WrAt B b l true (w.setCell ⟨b, 2, none⟩ (.bool true))) := ⟨hB, p, v, hp, heap_setCell_same _ _ _ _ _ _ hb, ownF_set ho hne, hne⟩
      have HBL : Hid (Below B w (w.setCell ⟨b, 2, none⟩ (.bool true))) := (Below.refl B w).setCell (p := ⟨b, 2, none⟩) hB _
      have HOK : Hid (Lib.OthersKept 5 (some b) w (w.setCell ⟨b, 2, none⟩ (.bool true))) := (Lib.OthersKept.refl _ _ w).setCell ⟨b, 2, none⟩ rfl _
      go_upto_region 1 with fail
      generalize w.setCell ⟨b, 2, none⟩ (.bool true) = w1 at *
      clear c2 e2
      go_wp2_with fail
      refine (itoa_any n h0 h1 w1 (hT.low hG HBL.out)).mono ?_
      rintro e w2 ⟨rfl, hb2⟩
      have HW2 : Hid (WrAt B b l true w2) := HSET.out.kept hb2
      have HB2 : Hid (Below B w w2) := HBL.out.trans (hb2.mono (Nat.le_trans hBw HBL.out.size))
      have HO2 : Hid (Lib.OthersKept 5 (some b) w w2) := HOK.out.trans (kept_below hb2)
      have HBZ : Hid (B ≤ w2.heap.size) := Nat.le_trans hBw HB2.out.size
      clear hb2 HSET HBL HOK
      have HPU := Lib.hid (put_alloc2 B b l true word (itoaB n) w2 HW2.out (HBZ.out) hlen hsz)
      go_wp2_with fail
      refine HPU.out.mono ?_
      rintro e w4 ⟨rfl, hu, hb4, ho4⟩
      have HU := Lib.hid hu
      have HB4 := Lib.hid (HB2.out.trans hb4); have HO4 := Lib.hid (HO2.out.trans ho4)
      clear hu hb4 ho4 HPU HB2 HO2
      go_wp2_with fail
      go_end0
      exact ⟨rfl, by first | (rw [HX.out]; exact HU.out) | exact HU.out, HB4.out, HO4.out⟩
    have t1 : decide (n < 0) = false := decide_eq_false n0
    by_cases n1 : 65535 < n
    · have t2 : decide (65535 < n) = true := decide_eq_true n1
      have HX : Hid (offR n = true) := by show _ = _; unfold offR; rw [t1, t2]; rfl
      clear n0 n1
      go_enter Tryz.func43, Tryz.ntmps43
      have HSET : Hid (WrAt B b l true (w.setCell ⟨b, 2, none⟩ (.bool true))) := ⟨hB, p, v, hp, heap_setCell_same _ _ _ _ _ _ hb, ownF_set ho hne, hne⟩
      have HBL : Hid (Below B w (w.setCell ⟨b, 2, none⟩ (.bool true))) := (Below.refl B w).setCell (p := ⟨b, 2, none⟩) hB _
      have HOK : Hid (Lib.OthersKept 5 (some b) w (w.setCell ⟨b, 2, none⟩ (.bool true))) := (Lib.OthersKept.refl _ _ w).setCell ⟨b, 2, none⟩ rfl _
      go_upto_region 1 with fail
      generalize w.setCell ⟨b, 2, none⟩ (.bool true) = w1 at *
      clear c2 e2
      go_wp2_with fail
      refine (itoa_any n h0 h1 w1 (hT.low hG HBL.out)).mono ?_
      rintro e w2 ⟨rfl, hb2⟩
      have HW2 : Hid (WrAt B b l true w2) := HSET.out.kept hb2
      have HB2 : Hid (Below B w w2) := HBL.out.trans (hb2.mono (Nat.le_trans hBw HBL.out.size))
      have HO2 : Hid (Lib.OthersKept 5 (some b) w w2) := HOK.out.trans (kept_below hb2)
      have HBZ : Hid (B ≤ w2.heap.size) := Nat.le_trans hBw HB2.out.size
      clear hb2 HSET HBL HOK
      have HPU := Lib.hid (put_alloc2 B b l true word (itoaB n) w2 HW2.out (HBZ.out) hlen hsz)
      go_wp2_with fail
      refine HPU.out.mono ?_
      rintro e w4 ⟨rfl, hu, hb4, ho4⟩
      have HU := Lib.hid hu
      have HB4 := Lib.hid (HB2.out.trans hb4); have HO4 := Lib.hid (HO2.out.trans ho4)
      clear hu hb4 ho4 HPU HB2 HO2
      go_wp2_with fail
      go_end0
      exact ⟨rfl, by first | (rw [HX.out]; exact HU.out) | exact HU.out, HB4.out, HO4.out⟩
    · have t2 : decide (65535 < n) = false := decide_eq_false n1
      have HX : Hid (offR n = false) := by show _ = _; unfold offR; rw [t1, t2]; rfl
      clear n0 n1
      go_enter Tryz.func43, Tryz.ntmps43
      have HSET : Hid (WrAt B b l false (w.setCell ⟨b, 2, none⟩ (.bool false))) := ⟨hB, p, v, hp, heap_setCell_same _ _ _ _ _ _ hb, ownF_set ho hne, hne⟩
      have HBL : Hid (Below B w (w.setCell ⟨b, 2, none⟩ (.bool false))) := (Below.refl B w).setCell (p := ⟨b, 2, none⟩) hB _
      have HOK : Hid (Lib.OthersKept 5 (some b) w (w.setCell ⟨b, 2, none⟩ (.bool false))) := (Lib.OthersKept.refl _ _ w).setCell ⟨b, 2, none⟩ rfl _
      go_upto_region 1 with fail
      generalize w.setCell ⟨b, 2, none⟩ (.bool false) = w1 at *
      clear c2 e2
      go_wp2_with fail
      refine (itoa_any n h0 h1 w1 (hT.low hG HBL.out)).mono ?_
      rintro e w2 ⟨rfl, hb2⟩
      have HW2 : Hid (WrAt B b l false w2) := HSET.out.kept hb2
      have HB2 : Hid (Below B w w2) := HBL.out.trans (hb2.mono (Nat.le_trans hBw HBL.out.size))
      have HO2 : Hid (Lib.OthersKept 5 (some b) w w2) := HOK.out.trans (kept_below hb2)
      have HBZ : Hid (B ≤ w2.heap.size) := Nat.le_trans hBw HB2.out.size
      clear hb2 HSET HBL HOK
      have HPU := Lib.hid (put_alloc2 B b l false word (itoaB n) w2 HW2.out (HBZ.out) hlen hsz)
      go_wp2_with fail
      refine HPU.out.mono ?_
      rintro e w4 ⟨rfl, hu, hb4, ho4⟩
      have HU := Lib.hid hu
      have HB4 := Lib.hid (HB2.out.trans hb4); have HO4 := Lib.hid (HO2.out.trans ho4)
      clear hu hb4 ho4 HPU HB2 HO2
      go_wp2_with fail
      go_end0
      exact ⟨rfl, by first | (rw [HX.out]; exact HU.out) | exact HU.out, HB4.out, HO4.out⟩
end Go.Proofs.YtpodedhnlicckaaGreatDoor
