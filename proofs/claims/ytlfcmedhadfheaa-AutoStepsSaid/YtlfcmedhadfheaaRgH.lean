/- The document's automaton: New. -/
import Derived.Test.YtlfcmedhadfheaaRgG
namespace Go.Proofs.Ytlfcmedhadfheaa
open Go.RowKit
set_option linter.unusedVariables false
set_option linter.unusedSimpArgs false
theorem info_r27 : (Try.prog.info? 61).map (fun i => (i.zero, i.size, i.bytes)) = some (some (.agg #[Value.int .i64 0, .int .i64 0, .slice none 0 0, .slice none 0 0]), 4, 64) := by kernel_rfl
theorem make_r27 (n : Nat) (hn : n ≤ 1000) (w : World) : (Instr.makeSlice 57 (.int .i64 (n : Int)) (.int .i64 (n : Int))).run Try.prog w = .ok (.slice (some ⟨w.heap.size, 0, none⟩) n n) (w.alloc (.cells (madeCells #[Value.int .i64 0, .int .i64 0, .slice none 0 0, .slice none 0 0] (n * 4)) 61)) := by
  obtain ⟨i0, hi, hz0, hz1, hz2⟩ := tb_info info_r27
  have := run_make (P := Try.prog) w 57 61 i0 _ Try.underlying57 hi hz0 .i64 .i64 n n (by omega) (Int.le_refl _) (by rw [hz2]; omega) (by omega)
  rw [Int.toNat_natCast, hz1] at this
  exact this
theorem made_r27_cells (T : Tab) (n i : Nat) (hi : i < n * 4) : (madeCells #[Value.int .i64 0, .int .i64 0, .slice none 0 0, .slice none 0 0] (n * 4))[i]? = some (r27V T as0.R (fun _ => 0) (fun _ => 0) i) := by
  unfold madeCells
  rw [Array.getElem?_map, Array.getElem?_range, if_pos hi]
  show some _ = some _
  congr 1
  have h4 : i % 4 < 4 := Nat.mod_lt _ (by omega)
  show (#[Value.int .i64 0, .int .i64 0, .slice none 0 0, .slice none 0 0] : Array Value)[i % 4]! = if i % 4 = 0 then Value.int .i64 0 else if i % 4 = 1 then Value.int .i64 0 else if i % 4 = 2 then Value.slice none 0 0 else Value.slice none 0 0
  match i % 4, h4 with
  | 0, _ => rfl
  | 1, _ => rfl
  | 2, _ => rfl
  | 3, _ => rfl
theorem Nf_rs0 (L : Nat) : Nf rs0 L := ⟨fun _ => rfl, fun e => absurd e (by decide), fun _ => ⟨rfl, rfl⟩, fun e => absurd e (by decide), Nat.pow_pos (by omega), Nat.pow_pos (by omega), by show (0 : Nat) < 4; omega, by show 0 < 65536; omega⟩
theorem new_end27 (w W : World) (T : Tab) (vp vr : Value) (rb cb g : Nat) (hB : Below w.heap.size w W)
    (h1 : W.heap[rb]? = some (.cells (madeCells #[Value.int .i64 0, .int .i64 0, .slice none 0 0, .slice none 0 0] (T.rts.length * 4)) 61 (0, 0))) (h2 : W.heap[cb]? = some (.cells (madeCells #[.int .i64 0] T.pts.length) 3 (0, 0)))
    (h3 : W.heap[g]? = some (.cells #[.int .i64 T.tracks, vp, .int .i64 T.sigs, vr, .slice (some ⟨rb, 0, none⟩) T.rts.length T.rts.length, .slice (some ⟨cb, 0, none⟩) T.pts.length T.pts.length] 59 (0, 0)))
    (hp : IntsAt w vp T.pts) (hr : RtsAt w vr T.rts) (e1 : w.heap.size ≤ rb) (e2 : w.heap.size ≤ cb) (e3 : w.heap.size ≤ g) (e4 : g ≠ rb) (e5 : g ≠ cb) (e6 : rb ≠ cb) :
    R27At W ⟨w, w.heap.size, g, rb, cb, vp, vr, T⟩ as0 (fun _ => 0) (fun _ => 0) := by
  refine ⟨h3, hp, hr, hB, ⟨_, h1, by rw [size_madeCells]; exact Nat.le_refl _, fun i hi => made_r27_cells T _ i hi⟩, ⟨_, h2, by rw [size_madeCells]; exact Nat.le_refl _, fun i hi => ?_⟩, fun n hn h => absurd (show (0 : Nat) = 3 from h) (by decide), fun n hn => Nf_rs0 _, Nat.le_refl _, e3, e1, e2, e4, e5, e6, fun n hn h => absurd (show (0 : Nat) = 3 from h) (by decide), fun n m hn hm hne h => absurd (show (0 : Nat) = 3 from h) (by decide)⟩
  rw [← Array.getElem?_toList, toList_madeCells_one]
  have hi' : i < T.pts.length := hi
  simp [hi']
  rfl
def NewR (v : Value) (T : Tab) (w : World) (e : Ending) (w' : World) : Prop := ∃ u ub lb, e = .returned (.pointer (some ⟨u.g, 0, none⟩)) ∧ R27At w' u as0 ub lb ∧ u.T = T ∧ u.w0 = w ∧ u.B = w.heap.size ∧ v = .agg #[.int .i64 T.tracks, u.vp, .int .i64 T.sigs, u.vr] ∧ Below w.heap.size w w'
set_option maxRecDepth 100000 in
set_option maxHeartbeats 4000000 in
theorem rnew_any (v : Value) (T : Tab) (w : World) (hT : TabAt w v T) (hn : T.rts.length ≤ 1000) (hm : T.pts.length ≤ 1000) :
    Calls Try.prog 19 #[v] w (NewR v T w) := by
  obtain ⟨⟨vp, vr, rfl, hP, hr⟩, _, _⟩ := hT
  obtain ⟨a, c, C0, rfl, hlc, hcm, _⟩ := hr.at_
  obtain ⟨⟨va, vc, rfl, hvl, hvm, _⟩, _⟩ := id hP
  have HR := Lib.hid hr; have HP := Lib.hid hP
  obtain ⟨w1, hw1⟩ : ∃ w1, w1 = w.alloc (.cells #[.int .i64 T.tracks, .slice va T.pts.length vc, .int .i64 T.sigs, .slice a T.rts.length c] 25) := ⟨_, rfl⟩
  have B1 : Hid (Below w.heap.size w w1) := by rw [hw1]; exact tb_alloc_below _ _
  have K1 : Hid (w1.heap[w.heap.size]? = some (.cells #[.int .i64 T.tracks, .slice va T.pts.length vc, .int .i64 T.sigs, .slice a T.rts.length c] 25 (0, 0))) := by rw [hw1]; exact heap_alloc_new _ _
  have HW1 := Lib.hid hw1
  have hmk1 := fun w => make_r27 T.rts.length hn w
  have hmk2 := fun w => run_make_row' (P := Try.prog) 22 3 (.int .i64 0) 8 Try.underlying22 infoI rfl .i64 .i64 T.pts.length (by omega) (by omega) w
  unfold maxLen at hvm hcm
  obtain ⟨tb, htb⟩ : ∃ b, b = w.heap.size := ⟨_, rfl⟩
  have HTB := Lib.hid htb
  rw [← htb] at K1
  have HSV : Hid (∀ W, Below w1.heap.size w1 W → (W.cell? ⟨tb, 0, none⟩ = some (.int .i64 T.tracks) ∧ W.cell? ⟨tb, 1, none⟩ = some (.slice va T.pts.length vc) ∧ W.cell? ⟨tb, 2, none⟩ = some (.int .i64 T.sigs) ∧ W.cell? ⟨tb, 3, none⟩ = some (.slice a T.rts.length c)) ∧ tb < W.heap.size) := fun W hW => by
    have h1 := tb_kept K1.out hW
    exact ⟨⟨cell_row h1 rfl, cell_row h1 rfl, cell_row h1 rfl, cell_row h1 rfl⟩, heap_lt h1⟩
  have HZ1 : Hid (w.heap.size ≤ w1.heap.size) := B1.out.size
  have HEND : Hid (∀ W rb cb g, Below w1.heap.size w1 W → W.heap[rb]? = some (.cells (madeCells #[Value.int .i64 0, .int .i64 0, .slice none 0 0, .slice none 0 0] (T.rts.length * 4)) 61 (0, 0)) → W.heap[cb]? = some (.cells (madeCells #[.int .i64 0] T.pts.length) 3 (0, 0)) →
    W.heap[g]? = some (.cells #[.int .i64 T.tracks, .slice va T.pts.length vc, .int .i64 T.sigs, .slice a T.rts.length c, .slice (some ⟨rb, 0, none⟩) T.rts.length T.rts.length, .slice (some ⟨cb, 0, none⟩) T.pts.length T.pts.length] 59 (0, 0)) →
    w1.heap.size ≤ rb → w1.heap.size ≤ cb → w1.heap.size ≤ g → g ≠ rb → g ≠ cb → rb ≠ cb → NewR (.agg #[.int .i64 T.tracks, .slice va T.pts.length vc, .int .i64 T.sigs, .slice a T.rts.length c]) T w (.returned (.pointer (some ⟨g, 0, none⟩))) W.drew) := fun W rb cb g hB h1 h2 h3 e1 e2 e3 e4 e5 e6 => by
    have hz := HZ1.out
    have hBW : Below w.heap.size w W := B1.out.trans (hB.mono B1.out.size)
    have R := new_end27 w W T _ _ rb cb g hBW h1 h2 h3 HP.out HR.out (by omega) (by omega) (by omega) e4 e5 e6
    exact ⟨_, _, _, rfl, R.below ⟨rfl, rfl, rfl, Nat.le_refl _, fun _ _ => rfl⟩, rfl, rfl, rfl, rfl, hBW.drew⟩
  clear hw1 htb hP hr K1 HZ1
  go_enter Try.func19, Try.ntmps19
  go_upto_region 1 with fail
  rw [← HW1.out, ← HTB.out]
  clear HW1
  have BD : Hid (Below w1.heap.size w1 w1.drew) := (Below.refl _ _).drew
  go_region_held3 (fun W => (W.cell? ⟨tb, 0, none⟩ = some (.int .i64 T.tracks) ∧ W.cell? ⟨tb, 1, none⟩ = some (.slice va T.pts.length vc) ∧ W.cell? ⟨tb, 2, none⟩ = some (.int .i64 T.sigs) ∧ W.cell? ⟨tb, 3, none⟩ = some (.slice a T.rts.length c)) ∧ tb < W.heap.size)
    (first | exact HSV.out _ (Below.alloc' (Below.alloc' (Below.alloc' BD.out _) _) _) | exact HSV.out _ (Below.alloc' (Below.alloc' BD.out _) _) | exact HSV.out _ (Below.alloc' BD.out _) | exact HSV.out _ BD.out)
    (fail)
  · rename_i hheld
    clear hheld hmk1 hmk2
    obtain ⟨W, hW, k0, k1, k2, hz, hb⟩ := alloc3 w1 (madeCells #[Value.int .i64 0, .int .i64 0, .slice none 0 0, .slice none 0 0] (T.rts.length * 4)) (madeCells #[.int .i64 0] T.pts.length) #[.int .i64 T.tracks, .slice va T.pts.length vc, .int .i64 T.sigs, .slice a T.rts.length c, .slice (some ⟨w1.heap.size, 0, none⟩) T.rts.length T.rts.length, .slice (some ⟨w1.heap.size + 1, 0, none⟩) T.pts.length T.pts.length] 61 3 59
    have HF := Lib.hid (HEND.out W w1.heap.size (w1.heap.size + 1) (w1.heap.size + 1 + 1) hb k0 k1 k2 (by omega) (by omega) (by omega) (by omega) (by omega) (by omega))
    rw [← hW]
    clear hW k0 k1 k2 hz hb
    go_wp2_with fail
    go_ret
    exact HF.out
  · rename_i hheld
    clear hheld hmk1 hmk2
    obtain ⟨W, hW, k0, k1, k2, hz, hb⟩ := alloc3 w1 (madeCells #[.int .i64 0] T.pts.length) (madeCells #[Value.int .i64 0, .int .i64 0, .slice none 0 0, .slice none 0 0] (T.rts.length * 4)) #[.int .i64 T.tracks, .slice va T.pts.length vc, .int .i64 T.sigs, .slice a T.rts.length c, .slice (some ⟨w1.heap.size + 1, 0, none⟩) T.rts.length T.rts.length, .slice (some ⟨w1.heap.size, 0, none⟩) T.pts.length T.pts.length] 3 61 59
    have HF := Lib.hid (HEND.out W (w1.heap.size + 1) w1.heap.size (w1.heap.size + 1 + 1) hb k1 k0 k2 (by omega) (by omega) (by omega) (by omega) (by omega) (by omega))
    rw [← hW]
    clear hW k0 k1 k2 hz hb
    go_wp2_with fail
    go_ret
    exact HF.out
end Go.Proofs.Ytlfcmedhadfheaa
