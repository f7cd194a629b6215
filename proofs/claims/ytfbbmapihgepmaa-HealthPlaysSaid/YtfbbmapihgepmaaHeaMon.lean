/- What New, Reset and Copy come to. -/
import Derived.Test.YtfbbmapihgepmaaHeaNew
namespace Go.Proofs.Ytfbbmapihgepmaa
open Go.RowKit
set_option linter.unusedVariables false
theorem HMon.ext' {S T : HMon} (h1 : ∀ j, S.l j = T.l j) (h2 : S.n = T.n) (h3 : S.safe = T.safe) : S = T := by
  cases S; cases T; simp at h2 h3; subst h2 h3; congr 1; exact funext h1
theorem MonAt.setField {w : World} {g : Nat} {S : HMon} (h : MonAt w g S) (i c : Nat) (hi : i < 8) (hc : c < 5) (p' : HPart) (v : Value) (hp : ∀ j, j < 5 → partV p' j = if j = c then v else partV (S.l i) j) :
    MonAt (w.setCell ⟨g, i * 5 + c, none⟩ v) g (S.setPart i p') := by
  refine h.set (i * 5 + c) _ (by omega) fun j hj => ?_
  unfold monV
  by_cases e1 : j = 40
  · rw [if_pos e1, if_neg (by omega), if_pos e1]; rfl
  · by_cases e2 : j = 41
    · rw [if_neg e1, if_pos e2, if_neg (by omega), if_neg e1, if_pos e2]; rfl
    · rw [if_neg e1, if_neg e2, if_neg e1, if_neg e2]
      unfold HMon.setPart
      by_cases e3 : j / 5 = i
      · simp only [e3, if_true]
        rw [hp (j % 5) (by omega)]
        by_cases e4 : j % 5 = c
        · rw [if_pos e4, if_pos (by omega)]
        · rw [if_neg e4, if_neg (by omega)]
      · simp only [e3, if_false]
        rw [if_neg (by omega)]
theorem setPart_twice (S : HMon) (i : Nat) (p q : HPart) : (S.setPart i p).setPart i q = S.setPart i q := by
  refine HMon.ext' (fun j => ?_) rfl rfl
  simp [HMon.setPart]
  split <;> rfl
theorem setPart_l (S : HMon) (i : Nat) (p : HPart) : (S.setPart i p).l i = p := by simp [HMon.setPart]
/-- The three numbers of a row are laid. -/
theorem MonAt.setDef {w : World} {g : Nat} {S : HMon} (h : MonAt w g S) (i : Nat) (hi : i < 8) (d : HDef) :
    MonAt (((w.setCell ⟨g, i * 5, none⟩ (.int .u8 (d.trap : Int))).setCell ⟨g, i * 5 + 1, none⟩ (.int .u8 (d.over : Int))).setCell ⟨g, i * 5 + 2, none⟩ (.int .u8 (d.lim : Int))) g (S.setPart i { S.l i with d := d }) := by
  have h1 := h.setField i 0 hi (by omega) { S.l i with d := { (S.l i).d with trap := d.trap } } (.int .u8 (d.trap : Int)) (fun j hj => by
    match j, hj with | 0, _ => rfl | 1, _ => rfl | 2, _ => rfl | 3, _ => rfl | 4, _ => rfl)
  have h2 := h1.setField i 1 hi (by omega) { S.l i with d := { d with lim := (S.l i).d.lim } } (.int .u8 (d.over : Int)) (fun j hj => by
    rw [setPart_l]; match j, hj with | 0, _ => rfl | 1, _ => rfl | 2, _ => rfl | 3, _ => rfl | 4, _ => rfl)
  have h3 := h2.setField i 2 hi (by omega) { S.l i with d := d } (.int .u8 (d.lim : Int)) (fun j hj => by
    rw [setPart_l]; match j, hj with | 0, _ => rfl | 1, _ => rfl | 2, _ => rfl | 3, _ => rfl | 4, _ => rfl)
  rw [setPart_twice, setPart_twice] at h3
  exact h3
theorem MonAt.drew {w : World} {g : Nat} {S : HMon} (h : MonAt w g S) : MonAt w.drew g S := h
theorem MonAt.alloc {w : World} {g : Nat} {S : HMon} (h : MonAt w g S) (o : Obj) : MonAt (w.alloc o) g S := h.below ((Below.refl _ _).alloc (Nat.le_refl _) _)
def zeroPart : HPart := { d := { trap := 0, over := 0, lim := 0 }, halted := false, rs := 0 }
def newMon (D : Nat → HDef) (len k : Nat) : HMon := { l := fun j => if j < k then { d := D j, halted := false, rs := 0 } else zeroPart, n := len, safe := false }
theorem newMon_succ (D : Nat → HDef) (len k : Nat) : (newMon D len k).setPart k { (newMon D len k).l k with d := D k } = newMon D len (k + 1) := by
  refine HMon.ext' (fun j => ?_) rfl rfl
  simp only [HMon.setPart, newMon]
  by_cases e : j = k
  · subst e; simp [zeroPart]
  · rw [if_neg e]
    by_cases h : j < k
    · rw [if_pos h, if_pos (by omega)]
    · rw [if_neg h, if_neg (by omega)]
theorem newMon_zero (D : Nat → HDef) (len : Nat) : monRow (newMon D len 0) = #[.int .u8 0, .int .u8 0, .int .u8 0, .bool false, .int .u32 0, .int .u8 0, .int .u8 0, .int .u8 0, .bool false, .int .u32 0, .int .u8 0, .int .u8 0, .int .u8 0, .bool false, .int .u32 0, .int .u8 0, .int .u8 0, .int .u8 0, .bool false, .int .u32 0, .int .u8 0, .int .u8 0, .int .u8 0, .bool false, .int .u32 0, .int .u8 0, .int .u8 0, .int .u8 0, .bool false, .int .u32 0, .int .u8 0, .int .u8 0, .int .u8 0, .bool false, .int .u32 0, .int .u8 0, .int .u8 0, .int .u8 0, .bool false, .int .u32 0, .int .i64 (len : Int), .bool false] := by
  simp [monRow, List.range, List.range.loop, monV, partV, newMon, zeroPart]
theorem new_bad (a : Option Addr) (len cap : Nat) (D : Nat → HDef) (w : World) (hm : len ≤ 9223372036854775807) (h : DefsAt w a len D) (hb : checkV D len = 2) :
    Calls Try.prog 7 #[.slice a len cap] w fun e w' => e = .returned (.tuple #[.pointer none, .int .i64 2]) ∧ Below w.heap.size w w' := by
  have HC := check_any a len cap D w hm h
  rw [hb] at HC
  have HC := Lib.hid HC
  clear h hb
  go_enter Try.func7, Try.ntmps7
  go_wp2_with fail
  refine HC.out.mono ?_
  rintro e w1 ⟨rfl, hb⟩
  have HB := Lib.hid hb; clear hb
  go_wp2_with fail
  go_ret2
  exact ⟨rfl, HB.out⟩
def NewPost (w : World) (D : Nat → HDef) (len : Nat) (e : Ending) (w' : World) : Prop :=
  ∃ g, e = .returned (.tuple #[.pointer (some ⟨g, 0, none⟩), .int .i64 0]) ∧ w.heap.size ≤ g ∧ g < w'.heap.size ∧ MonAt w' g (newMon D len len) ∧ Below w.heap.size w w'
set_option maxHeartbeats 2000000 in
set_option maxRecDepth 100000 in
theorem new_good (a : Option Addr) (len cap : Nat) (D : Nat → HDef) (w : World) (h8 : len ≤ 8) (h : DefsAt w a len D) (hb : checkV D len = 0) :
    Calls Try.prog 7 #[.slice a len cap] w (NewPost w D len) := by
  have HC := check_any a len cap D w (by omega) h
  rw [hb] at HC
  have HC := Lib.hid HC
  have H := Lib.hid h
  clear h hb
  go_enter Try.func7, Try.ntmps7
  go_wp2_with fail
  refine HC.out.mono ?_
  rintro e w1 ⟨rfl, hb⟩
  have HB := Lib.hid hb; clear hb
  go_wp2_with fail
  go_loopw [19] (fun i wr => ∃ k : Nat, k ≤ len ∧ i = .int .i64 k ∧ MonAt wr w1.heap.size (newMon D len k) ∧ Below w.heap.size w wr) (fun i _ => len - (intOf i).toNat)
  case atStart => exact ⟨0, Nat.zero_le _, rfl, by unfold MonAt; rw [newMon_zero]; exact heap_alloc_new _ _, HB.out.alloc HB.out.size _⟩
  case round =>
    obtain ⟨k, hk, rfl, hM, hB⟩ := hrel
    have HM := Lib.hid hM; have HB2 := Lib.hid hB
    clear hM hB
    have hg : w.heap.size ≤ w1.heap.size := HB.out.size
    generalize w1.heap.size = g at *
    by_cases hlt : k < len
    · obtain ⟨b, off, rfl, hbl, hcells⟩ := H.out.1.at (by omega)
      have d1 := (H.out.2 k hlt).1; have d2 := (H.out.2 k hlt).2.1; have d3 := (H.out.2 k hlt).2.2
      have c0 : wr.cell? ⟨b, off + k * 3, none⟩ = some (.int .u8 ((D k).trap : Int)) := by rw [HB2.out.cell hbl]; exact hcells k hlt 0 (by omega)
      have c1 : wr.cell? ⟨b, off + k * 3 + 1, none⟩ = some (.int .u8 ((D k).over : Int)) := by rw [HB2.out.cell hbl]; exact hcells k hlt 1 (by omega)
      have c2 : wr.cell? ⟨b, off + k * 3 + 2, none⟩ = some (.int .u8 ((D k).lim : Int)) := by rw [HB2.out.cell hbl]; exact hcells k hlt 2 (by omega)
      clear hcells
      have e0 : wr.cell? ⟨g, k * 5, none⟩ = some (.int .u8 (((newMon D len k).l k).d.trap : Int)) := HM.out.cell k 0 (by omega) (by omega)
      have e1 : wr.cell? ⟨g, k * 5 + 1, none⟩ = some (.int .u8 (((newMon D len k).l k).d.over : Int)) := HM.out.cell k 1 (by omega) (by omega)
      have e2 : wr.cell? ⟨g, k * 5 + 2, none⟩ = some (.int .u8 (((newMon D len k).l k).d.lim : Int)) := HM.out.cell k 2 (by omega) (by omega)
      have f0 := HM.out.free (k * 5)
      have f1 := HM.out.free (k * 5 + 1)
      have f2 := HM.out.free (k * 5 + 2)
      have i1 : (k : Int) < 8 := by omega
      have hgl := heap_lt HM.out
      go_wp2_with fail
      go_region
      go_wp2_with fail
      go_roundw
      case rel =>
        refine ⟨k + 1, by omega, by go_num, ?_, ?_⟩
        · have h3 := HM.out.setDef k (by omega) (D k)
          rw [newMon_succ] at h3
          exact (h3.alloc _).drew
        · have hz := HB2.out.size
          exact (((((HB2.out.setCell (p := ⟨g, _, none⟩) hg _).setCell (p := ⟨g, _, none⟩) hg _).setCell (p := ⟨g, _, none⟩) hg _)).alloc (by simp [World.setCell]; exact hz) _).drew
      case measure => simp [intOf]; omega
    · obtain rfl : k = len := by omega
      go_wp2_with fail
      go_ret2
      exact ⟨g, rfl, hg, heap_lt HM.out, HM.out, HB2.out⟩

theorem reset_nil (w : World) : Calls Try.prog 13 #[.pointer none] w fun e w' => e = .returned (.tuple #[]) ∧ w = w' := by
  go_enter Try.func13, Try.ntmps13
  go_wp2
  first
    | (go_end0; exact ⟨rfl, rfl⟩)
    | (refine bodyPost_ret (results_none rfl _ _ _) rfl ?_; exact ⟨rfl, rfl⟩)
/-- The first k partitions as at first. -/
def rstMon (S : HMon) (k : Nat) : HMon := { l := fun j => if j < k then { d := (S.l j).d, halted := false, rs := 0 } else S.l j, n := S.n, safe := false }
theorem rstMon_succ (S : HMon) (k : Nat) : (rstMon S k).setPart k { d := ((rstMon S k).l k).d, halted := false, rs := 0 } = rstMon S (k + 1) := by
  refine HMon.ext' (fun j => ?_) rfl rfl
  simp only [HMon.setPart, rstMon]
  by_cases e : j = k
  · subst e; simp
  · rw [if_neg e]
    by_cases h : j < k
    · rw [if_pos h, if_pos (by omega)]
    · rw [if_neg h, if_neg (by omega)]
theorem MonAt.setOne {w : World} {g : Nat} {S : HMon} (h : MonAt w g S) (i : Nat) (hi : i < 8) :
    MonAt (((((w.setCell ⟨g, i * 5, none⟩ (.int .u8 ((S.l i).d.trap : Int))).setCell ⟨g, i * 5 + 1, none⟩ (.int .u8 ((S.l i).d.over : Int))).setCell ⟨g, i * 5 + 2, none⟩ (.int .u8 ((S.l i).d.lim : Int))).setCell ⟨g, i * 5 + 3, none⟩ (.bool false)).setCell ⟨g, i * 5 + 4, none⟩ (.int .u32 0)) g (S.setPart i { d := (S.l i).d, halted := false, rs := 0 }) := by
  have h3 := h.setDef i hi (S.l i).d
  have h4 := h3.setField i 3 hi (by omega) { d := (S.l i).d, halted := false, rs := (S.l i).rs } (.bool false) (fun j hj => by
    rw [setPart_l]; match j, hj with | 0, _ => rfl | 1, _ => rfl | 2, _ => rfl | 3, _ => rfl | 4, _ => rfl)
  have h5 := h4.setField i 4 hi (by omega) { d := (S.l i).d, halted := false, rs := 0 } (.int .u32 0) (fun j hj => by
    rw [setPart_l]; match j, hj with | 0, _ => rfl | 1, _ => rfl | 2, _ => rfl | 3, _ => rfl | 4, _ => rfl)
  rw [setPart_twice, setPart_twice] at h5
  exact h5
set_option maxHeartbeats 2000000 in
theorem reset_any (g : Nat) (S : HMon) (w : World) (h : MonAt w g S) : Calls Try.prog 13 #[.pointer (some ⟨g, 0, none⟩)] w fun e w' => e = .returned (.tuple #[]) ∧ MonAt w' g (rstMon S 8) ∧ w.grownBy w' (some g) := by
  have H := Lib.hid h
  have hs := h.safe
  have hf := h.free 41
  clear h
  go_enter Try.func13, Try.ntmps13
  go_wp2_with fail
  clear hs hf
  go_loopw [8] (fun i wr => ∃ k : Nat, k ≤ 8 ∧ i = .int .i64 k ∧ MonAt wr g (rstMon S k) ∧ w.grownBy wr (some g)) (fun i _ => 8 - (intOf i).toNat)
  case atStart =>
    refine ⟨0, Nat.zero_le _, rfl, ?_, grown_setCell (grown_refl _ _) _⟩
    have h1 := H.out.setSafe false
    have e : ({ S with safe := false } : HMon) = rstMon S 0 := HMon.ext' (fun j => by simp [rstMon]) rfl rfl
    rw [e] at h1
    exact h1
  case round =>
    obtain ⟨k, hk, rfl, hM, hG⟩ := hrel
    have HM := Lib.hid hM; have HG := Lib.hid hG
    clear hM hG
    by_cases hlt : k < 8
    · have e0 : wr.cell? ⟨g, k * 5, none⟩ = some (.int .u8 (((rstMon S k).l k).d.trap : Int)) := HM.out.cell k 0 (by omega) (by omega)
      have e1 : wr.cell? ⟨g, k * 5 + 1, none⟩ = some (.int .u8 (((rstMon S k).l k).d.over : Int)) := HM.out.cell k 1 (by omega) (by omega)
      have e2 : wr.cell? ⟨g, k * 5 + 2, none⟩ = some (.int .u8 (((rstMon S k).l k).d.lim : Int)) := HM.out.cell k 2 (by omega) (by omega)
      have e3 : wr.cell? ⟨g, k * 5 + 3, none⟩ = some (.bool ((rstMon S k).l k).halted) := HM.out.cell k 3 (by omega) (by omega)
      have e4 : wr.cell? ⟨g, k * 5 + 4, none⟩ = some (.int .u32 (((rstMon S k).l k).rs : Int)) := HM.out.cell k 4 (by omega) (by omega)
      have f0 := HM.out.free (k * 5)
      have f1 := HM.out.free (k * 5 + 1)
      have f2 := HM.out.free (k * 5 + 2)
      have f3 := HM.out.free (k * 5 + 3)
      have f4 := HM.out.free (k * 5 + 4)
      have i1 : (k : Int) < 8 := by omega
      go_wp2_with fail
      go_region
      go_wp2_with fail
      go_roundw
      case rel =>
        refine ⟨k + 1, by omega, by go_num, ?_, ?_⟩
        · have h3 := HM.out.setOne k (by omega)
          rw [rstMon_succ] at h3
          exact h3.drew
        · exact grown_drew (grown_setCell (grown_setCell (grown_setCell (grown_setCell (grown_setCell HG.out _) _) _) _) _)
      case measure => simp [intOf]; omega
    · obtain rfl : k = 8 := by omega
      go_wp2_with fail
      go_end0
      exact ⟨rfl, HM.out, HG.out⟩
theorem copy_nil (w : World) : Calls Try.prog 15 #[.pointer none] w fun e w' => e = .returned (.pointer none) ∧ w = w' := by
  go_enter Try.func15, Try.ntmps15
  go_wp2
  go_ret
  exact ⟨rfl, rfl⟩
theorem infoMon (S : HMon) : (Try.prog.info? 54).map (·.size) = some (monRow S).size := by rw [monRow_size]; kernel_rfl
theorem monOnes (S : HMon) : (monRow S).all (·.oneCell') = true := by
  rw [Array.all_eq_true']
  intro v hv
  simp [monRow] at hv
  obtain ⟨j, _, rfl⟩ := hv
  unfold monV
  split
  · rfl
  · split
    · rfl
    · unfold partV; repeat' split
      all_goals rfl
set_option maxHeartbeats 2000000 in
set_option maxRecDepth 100000 in
theorem copy_any (g : Nat) (S : HMon) (w : World) (h : MonAt w g S) : Calls Try.prog 15 #[.pointer (some ⟨g, 0, none⟩)] w fun e w' => e = .returned (.pointer (some ⟨w.heap.size, 0, none⟩)) ∧ MonAt w' w.heap.size S ∧ Below w.heap.size w w' ∧ w.heap.size < w'.heap.size := by
  have H := Lib.hid h
  clear h
  go_enter Try.func15, Try.ntmps15
  go_wp2_with (first
    | (refine wpList_load_row rfl 54 _ rfl g rfl 54 (monRow S) (0, 0) _ H.out Try.underlying54 rfl (infoMon S) ?_)
    | (refine wpList_store_row rfl 54 _ _ rfl w.heap.size (monRow S) rfl rfl 54 (monRow (newMon (fun _ => { trap := 0, over := 0, lim := 0 }) 0 0)) (by rw [newMon_zero]; exact heap_alloc_new _ _) (infoMon S) (by rw [monRow_size, monRow_size]) (monOnes S) ?_))
  go_ret
  exact ⟨rfl, setRow_heap _ _ (monRow (newMon (fun _ => { trap := 0, over := 0, lim := 0 }) 0 0)) _ _ _ (by rw [newMon_zero]; exact heap_alloc_new _ _), below_setRow ((Below.refl _ _).alloc (Nat.le_refl _) _) (Nat.le_refl _) _, by simp⟩
end Go.Proofs.Ytfbbmapihgepmaa
