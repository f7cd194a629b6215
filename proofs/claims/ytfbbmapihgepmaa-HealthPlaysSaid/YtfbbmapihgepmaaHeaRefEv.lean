/- What an event of the reference's monitor comes to. -/
import Derived.Test.YtfbbmapihgepmaaHeaRef
namespace Go.Proofs.Ytfbbmapihgepmaa
open Go.RowKit
set_option linter.unusedVariables false
theorem infoEv : (Try.prog.info? 60).map (fun i => (i.zero, i.size, i.bytes)) = some (some (.agg #[.int .i64 0, .int .u8 0]), 2, 16) := by kernel_rfl
set_option maxHeartbeats 1000000 in
theorem refEvent_none (r : Nat) (a : Option Addr) (len cap : Nat) (es : Evs) (sf : Bool) (p : Int) (r0 r1 r2 r3 : Value) (w : World) (h : RefAt w r a len cap es sf) (hp : ¬ (0 ≤ p ∧ p < (len : Int))) :
    Calls Try.prog 11 #[.pointer (some ⟨r, 0, none⟩), .int .i64 p, .agg #[r0, r1, r2, r3]] w fun e w' => e = .returned (.tuple #[.int .u8 0, .int .i64 4]) ∧ Below w.heap.size w w' := by
  obtain ⟨v, h1, h2⟩ := h
  have c0 : (w.alloc (.cells #[r0, r1, r2, r3] 37)).cell? ⟨r, 0, none⟩ = some (.slice a len cap) := by rw [World.cell?_alloc_lt _ _ _ (heap_lt h1)]; exact cell_row h1 rfl
  clear h1 h2
  by_cases q1 : p < 0
  · have t1 : decide (p < 0) = true := by simpa using q1
    clear hp
    go_enter Try.func11, Try.ntmps11
    go_wp2_with fail
    go_ret2
    exact ⟨rfl, (Below.refl _ _).alloc (Nat.le_refl _) _⟩
  · have t1 : decide (p < 0) = false := by simpa using q1
    have t2 : decide ((len : Int) ≤ p) = true := by simp; omega
    clear hp
    go_enter Try.func11, Try.ntmps11
    go_wp2_with fail
    go_ret2
    exact ⟨rfl, (Below.refl _ _).alloc (Nat.le_refl _) _⟩
set_option maxHeartbeats 1000000 in
theorem refEvent_state (r : Nat) (a : Option Addr) (len cap : Nat) (es : Evs) (sf : Bool) (i : Nat) (r0 r1 r2 r3 : Value) (w : World) (h : RefAt w r a len cap es sf) (hn : es.length ≤ 100000) (hi : i < len)
    (hb : false = (decide (0 ≤ (i : Int)) && decide ((i : Int) < (len : Int)) && !sf && decide (cnt es (i : Int) 1 = 0))) :
    Calls Try.prog 11 #[.pointer (some ⟨r, 0, none⟩), .int .i64 (i : Int), .agg #[r0, r1, r2, r3]] w fun e w' => e = .returned (.tuple #[.int .u8 0, .int .i64 6]) ∧ Below w.heap.size w w' := by
  have HC := Lib.hid (refRuns_any r a len cap es sf (i : Int) false (w.alloc (.cells #[r0, r1, r2, r3] 37)) (h.below ((Below.refl _ _).alloc (Nat.le_refl _) _)) hn hb)
  obtain ⟨v, h1, h2⟩ := h
  have c0 : (w.alloc (.cells #[r0, r1, r2, r3] 37)).cell? ⟨r, 0, none⟩ = some (.slice a len cap) := by rw [World.cell?_alloc_lt _ _ _ (heap_lt h1)]; exact cell_row h1 rfl
  have t2 : decide ((len : Int) ≤ (i : Int)) = false := by simp; omega
  have t3 : decide (len ≤ i) = false := by simp; omega
  clear h1 h2 hb
  go_enter Try.func11, Try.ntmps11
  go_wp2_with fail
  refine HC.out.mono ?_
  rintro e w1 ⟨rfl, rfl⟩
  go_wp2_with fail
  go_ret2
  exact ⟨rfl, (Below.refl _ _).alloc (Nat.le_refl _) _⟩
theorem own_ne {W : World} {r n : Nat} {v : Value} {xs : List Value} (h : W.ownsRow (r + 1) 60 2 v n xs) : some r ≠ v.ownBlock := by
  rcases h.2 with ⟨rfl, _⟩ | ⟨o, c, cur, rfl, ho, _⟩
  · simp [Value.ownBlock]
  · simp [Value.ownBlock]; omega
theorem al_old (w : World) (o : Obj) (i : Nat) (h : i < w.heap.size) : (w.alloc o).heap[i]? = w.heap[i]? := ((Below.refl w.heap.size w).alloc (Nat.le_refl _) o).block i h
theorem ev_mid {W w1 : World} {r n : Nat} {v : Value} {xs : List Value} {o : Obj} {O1 : Obj} (g1 : W.heap[r]? = some o) (g2 : W.ownsRow (r + 1) 60 2 v n xs) (hgr : (W.alloc O1).grownBy w1 v.ownBlock) : w1.heap[r]? = some o := by
  have h0 := heap_lt g1
  rw [hgr.block r (by simp; omega) (own_ne g2), al_old _ _ _ h0, g1]
theorem evCells_snoc (es : Evs) (p : Int) (act : Nat) : evCells (es ++ [(p, act)]) = evCells es ++ [.int .i64 p, .int .u8 (act : Int)] := by simp [evCells]
theorem ev_frame {w W w1 : World} {r n : Nat} {v : Value} {xs : List Value} {o : Obj} {O1 : Obj} (hr : r < w.heap.size) (hb : Below w.heap.size w W) (g1 : W.heap[r]? = some o) (g2 : W.ownsRow (r + 1) 60 2 v n xs) (hgr : (W.alloc O1).grownBy w1 v.ownBlock) : EvFrame r w w1 := by
  have hs := hb.size
  refine ⟨?_, fun k hk hne hno => ?_, ?_⟩
  · have := hgr.size; simp at this; omega
  · rw [hgr.block k (by simp; omega) ?_, al_old _ _ _ (by omega), hb.block k hk]
    intro he
    rcases g2.2 with ⟨rfl, _⟩ | ⟨o2, c, cur, rfl, ho, hh, _⟩
    · simp [Value.ownBlock] at he
    · simp [Value.ownBlock] at he
      subst he
      rw [hb.block k hk] at hh
      exact hno cur hh
  · refine ⟨hgr.os.trans hb.os, hgr.tape.trans hb.tape, hgr.output.trans hb.output, by have := hgr.size; simp at this; omega, fun k hk => ?_⟩
    rw [hgr.block k (by simp; omega) ?_, al_old _ _ _ (by omega), hb.block k (by omega)]
    rcases g2.2 with ⟨rfl, _⟩ | ⟨o2, c, cur, rfl, ho, hh, _⟩
    · simp [Value.ownBlock]
    · simp [Value.ownBlock]; omega
theorem EvFrame.set {r : Nat} {w w1 : World} (h : EvFrame r w w1) (o : Nat) (v : Value) : EvFrame r w (w1.setCell ⟨r, o, none⟩ v) := by
  refine ⟨by simp [World.setCell]; exact h.size, fun k hk hne hno => ?_, h.below.setCell (p := ⟨r, o, none⟩) (Nat.le_refl _) _⟩
  rw [heap_setCell_other _ _ _ _ hne]; exact h.block k hk hne hno
theorem ref_set1 {w1 : World} {r len cap : Nat} {a : Option Addr} {es : Evs} {v v' : Value} {i act : Nat} {sf : Bool} (g1 : w1.heap[r]? = some (.cells #[.slice a len cap, v, .bool sf] 34 (0, 0)))
    (hown : w1.ownsRow (r + 1) 60 2 v' (es.length + 1) (evCells es ++ [.int .i64 (i : Int), .int .u8 (act : Int)])) : RefAt (w1.setCell ⟨r, 1, none⟩ v') r a len cap (es ++ [((i : Int), act)]) sf := by
  refine ⟨v', heap_setCell_same _ _ _ _ _ _ g1, ?_⟩
  rw [evCells_snoc, List.length_append]
  exact ownsRow_setCell_below hown (by simp) _
theorem ref_set2 {w1 : World} {r len cap : Nat} {a : Option Addr} {es : Evs} {sf : Bool} (h : RefAt w1 r a len cap es sf) : RefAt (w1.setCell ⟨r, 2, none⟩ (.bool true)) r a len cap es true := by
  obtain ⟨v, h1, h2⟩ := h
  exact ⟨v, heap_setCell_same _ _ _ _ _ _ h1, ownsRow_setCell_below h2 (by simp) _⟩
theorem news_at (W : World) (x y : Value) (t : TypeId) : ∀ (j : Nat) (u : Value), [x, y][j]? = some u → (W.alloc (.cells #[x, y] t)).cell? ((⟨W.heap.size, 0, none⟩ : Addr).add j) = some u := by
  intro j u h
  rw [Go.WideShapes.add_plain, Nat.zero_add]
  refine cell_row (heap_alloc_new _ _) ?_
  match j, h with
  | 0, h => simpa using h
  | 1, h => simpa using h
  | j + 2, h => simp at h
def RefEvPost (w : World) (r : Nat) (a : Option Addr) (len cap : Nat) (es : Evs) (i act : Nat) (e : Ending) (w' : World) : Prop :=
  e = .returned (.tuple #[.int .u8 (act : Int), .int .i64 0]) ∧ RefAt w' r a len cap (es ++ [((i : Int), act)]) (decide (act = 3)) ∧ EvFrame r w w'
set_option maxHeartbeats 8000000 in
theorem refEvent_runs (r : Nat) (a : Option Addr) (len cap : Nat) (es : Evs) (i kind : Nat) (d : HDef) (act : Nat) (r1 r2 r3 : Value) (w : World) (h : RefAt w r a len cap es false) (hn : es.length ≤ 100000) (hi : i < len) (hcap : len ≤ cap) (hk : kind < 256)
    (hb : true = (decide (0 ≤ (i : Int)) && decide ((i : Int) < (len : Int)) && !false && decide (cnt es (i : Int) 1 = 0))) (b off : Nat) (ha : a = some ⟨b, off, none⟩) (hbr : b < r)
    (hd0 : w.cell? ⟨b, off + i * 3, none⟩ = some (.int .u8 (d.trap : Int))) (hd1 : w.cell? ⟨b, off + i * 3 + 1, none⟩ = some (.int .u8 (d.over : Int))) (hd2 : w.cell? ⟨b, off + i * 3 + 2, none⟩ = some (.int .u8 (d.lim : Int)))
    (ht : d.trap < 256) (ho : d.over < 256) (hl : d.lim < 256) (hact : act = ({ d := d, halted := false, rs := cnt es (i : Int) 2 } : HPart).act kind) :
    Calls Try.prog 11 #[.pointer (some ⟨r, 0, none⟩), .int .i64 (i : Int), .agg #[.int .u8 (kind : Int), r1, r2, r3]] w (RefEvPost w r a len cap es i act) := by
  subst ha
  have HC := Lib.hid (refRuns_any r _ len cap es false (i : Int) true (w.alloc (.cells #[.int .u8 (kind : Int), r1, r2, r3] 37)) (h.below ((Below.refl _ _).alloc (Nat.le_refl _) _)) hn hb)
  have HRS := Lib.hid (fun w' h => refRestarts_any r (some ⟨b, off, none⟩) len cap es false (i : Int) w' h hn)
  have HX := hact
  unfold HPart.act HPart.raw at HX
  simp only at HX
  have HR0 := Lib.hid h
  have hbl := block_lt_of_cell hd0
  simp only at hbl
  have hrl := h.lt
  obtain ⟨v, h1, h2⟩ := h
  have c0 : (w.alloc (.cells #[.int .u8 (kind : Int), r1, r2, r3] 37)).cell? ⟨r, 0, none⟩ = some (.slice (some ⟨b, off, none⟩) len cap) := by rw [World.cell?_alloc_lt _ _ _ (heap_lt h1)]; exact cell_row h1 rfl
  have t2 : decide ((len : Int) ≤ (i : Int)) = false := by simp; omega
  have t3 : decide (len ≤ i) = false := by simp; omega
  have i1 : (i : Int) < (len : Int) := by omega
  clear h1 h2 hb
  have hrb := cnt_le es (i : Int) 2
  obtain ⟨R, hR⟩ : ∃ R, R = cnt es (i : Int) 2 := ⟨_, rfl⟩
  rw [← hR] at HRS HX hrb
  generalize d.trap = T at *
  generalize d.over = O at *
  generalize d.lim = L at *
  clear hact hR
  have HX2 := Lib.hid HX
  clear HX
  have key : (((kind : Int) == 3) = true ∧ ((kind : Int) == 4) = false ∧ act = (if T = 2 ∧ 0 < L ∧ L ≤ R then 1 else T)) ∨ (((kind : Int) == 3) = false ∧ ((kind : Int) == 4) = true ∧ act = (if O = 2 ∧ 0 < L ∧ L ≤ R then 1 else O)) ∨ (((kind : Int) == 3) = false ∧ ((kind : Int) == 4) = false ∧ act = 0) := by
    have hx := HX2.out
    by_cases h3 : kind = 3
    · left; subst h3; exact ⟨rfl, rfl, by simpa using hx⟩
    · by_cases h4 : kind = 4
      · right; left; subst h4; exact ⟨rfl, rfl, by simpa using hx⟩
      · right; right
        exact ⟨by simp; omega, by simp; omega, by simpa [h3, h4] using hx⟩
  have key2 : ∀ A : Nat, act = (if A = 2 ∧ 0 < L ∧ L ≤ R then 1 else A) → (A = 2 ∧ (((L : Int) != 0) = true ∧ 0 < L) ∧ decide ((L : Int) ≤ (R : Int)) = true ∧ decide (L ≤ R) = true ∧ act = 1) ∨ (A = 2 ∧ (((L : Int) != 0) = true ∧ 0 < L) ∧ decide ((L : Int) ≤ (R : Int)) = false ∧ decide (L ≤ R) = false ∧ act = 2) ∨ (A = 2 ∧ L = 0 ∧ act = 2) ∨ (A = 1 ∧ act = 1) ∨ (A = 3 ∧ act = 3) ∨ (((A : Int) == 2) = false ∧ ((A : Int) == 1) = false ∧ ((A : Int) == 3) = false ∧ act = A) := by
    intro A ha
    by_cases h2 : A = 2
    · by_cases hL : 0 < L
      · by_cases hLR : L ≤ R
        · left; rw [if_pos ⟨h2, hL, hLR⟩] at ha; exact ⟨h2, ⟨by simp; omega, hL⟩, by simp; omega, by simp; omega, ha⟩
        · right; left; rw [if_neg (by omega)] at ha; exact ⟨h2, ⟨by simp; omega, hL⟩, by simp; omega, by simp; omega, by omega⟩
      · right; right; left; rw [if_neg (by omega)] at ha; exact ⟨h2, by omega, by omega⟩
    · rw [if_neg (by omega)] at ha
      by_cases h1 : A = 1
      · right; right; right; left; omega
      · by_cases h3 : A = 3
        · right; right; right; right; left; omega
        · right; right; right; right; right
          exact ⟨by simp; omega, by simp; omega, by simp; omega, ha⟩
  have K2 := Lib.hid key2
  have hact : act < 256 := by
    rcases key with ⟨_, _, h⟩ | ⟨_, _, h⟩ | ⟨_, _, h⟩
    · rw [h]; split <;> omega
    · rw [h]; split <;> omega
    · omega
  clear key2 HX2
  obtain ⟨i0, hinf, hz0, hz1, hz2⟩ := info_parts infoEv
  have HI := Lib.hid hinf; have HZ0 := Lib.hid hz0; have HZ1 := Lib.hid hz1; have HZ2 := Lib.hid hz2
  clear hinf hz0 hz1 hz2
  rcases key with ⟨k3, k4, ha⟩ | ⟨k3, k4, ha⟩ | ⟨k3, k4, ha⟩
  · rcases K2.out T ha with ⟨rfl, ⟨l1, l4⟩, l2, l3, rfl⟩ | ⟨rfl, ⟨l1, l4⟩, l2, l3, rfl⟩ | ⟨rfl, rfl, rfl⟩ | ⟨rfl, rfl⟩ | ⟨rfl, rfl⟩ | ⟨e1, e2, e3, rfl⟩
    · clear ha K2
      go_enter Try.func11, Try.ntmps11
      go_wp2_with fail
      refine HC.out.mono ?_
      rintro e w1 ⟨rfl, rfl⟩
      go_wp2_with fail
      go_quiet ((go_at_call 19; exact Calls.quiet_of_same ((HRS.out _ (HR0.out.below (below_drewN (((Below.refl _ _).alloc (Nat.le_refl _) _).alloc (by simp) _)))).mono fun _ _ ⟨h1, h2⟩ => ⟨h1, h2.symm⟩)))
      generalize hW : World.drewN _ _ = W
      have HRW : Hid (RefAt W r (some ⟨b, off, none⟩) len cap es false ∧ Below w.heap.size w W) := by
        have hb2 : Below w.heap.size w W := by rw [← hW]; exact below_drewN (((Below.refl _ _).alloc (Nat.le_refl _) _).alloc (by simp) _)
        exact ⟨HR0.out.below hb2, hb2⟩
      clear hW
      obtain ⟨v, g1, g2⟩ := HRW.out.1
      have G1 := Lib.hid g1; have G2 := Lib.hid g2
      have e1 : W.cell? ⟨r, 1, none⟩ = some v := cell_row g1 rfl
      clear g1 g2
      go_wp2_with (at_builtin; refine wpList_append_own _ rfl _ _ 32 rfl (r + 1) 60 i0 (.agg #[.int .i64 0, .int .u8 0]) 2 16 Try.underlying32 HI.out HZ0.out HZ1.out HZ2.out rfl (by decide) v es.length (evCells es) rfl (G2.out.alloc _) ⟨W.heap.size, 0, none⟩ 1 1 [.int .i64 (i : Int), .int .u8 1] rfl rfl ?c1 ?c2 ?c3 ?c4 ?c5 ?_)
      case c1 => exact news_at _ _ _ _
      case c2 => intro u hu; simp at hu; rcases hu with rfl | rfl <;> rfl
      case c3 => unfold maxLen; omega
      case c4 => omega
      case c5 => have := HRW.out.1.lt; simp; omega
      intro v' w1 hown hgr _
      have GM := Lib.hid (ev_mid G1.out G2.out hgr)
      have GF := Lib.hid (ev_frame hrl HRW.out.2 G1.out G2.out hgr)
      have GO := Lib.hid hown
      obtain ⟨o, cp, rfl⟩ : ∃ o cp, v' = .slice (some ⟨o, 0, none⟩) (es.length + 1) cp := by
        rcases hown.2 with ⟨_, h0⟩ | ⟨o, c, _, hv, _⟩
        · omega
        · exact ⟨o, c, hv⟩
      have e1' : w1.cell? ⟨r, 1, none⟩ = some v := cell_row GM.out rfl
      have e2' : w1.cell? ⟨r, 2, none⟩ = some (.bool false) := cell_row GM.out rfl
      have f1' : w1.frozen? ⟨r, 1, none⟩ = false := frozen_of_row _ _ _ _ _ GM.out
      have f2' : w1.frozen? ⟨r, 2, none⟩ = false := frozen_of_row _ _ _ _ _ GM.out
      clear hown hgr e1
      go_wp2_with fail
      go_ret2
      exact ⟨rfl, ref_set1 GM.out GO.out, GF.out.set _ _⟩
    · clear ha K2
      go_enter Try.func11, Try.ntmps11
      go_wp2_with fail
      refine HC.out.mono ?_
      rintro e w1 ⟨rfl, rfl⟩
      go_wp2_with fail
      go_quiet ((go_at_call 19; exact Calls.quiet_of_same ((HRS.out _ (HR0.out.below (below_drewN (((Below.refl _ _).alloc (Nat.le_refl _) _).alloc (by simp) _)))).mono fun _ _ ⟨h1, h2⟩ => ⟨h1, h2.symm⟩)))
      generalize hW : World.drewN _ _ = W
      have HRW : Hid (RefAt W r (some ⟨b, off, none⟩) len cap es false ∧ Below w.heap.size w W) := by
        have hb2 : Below w.heap.size w W := by rw [← hW]; exact below_drewN (((Below.refl _ _).alloc (Nat.le_refl _) _).alloc (by simp) _)
        exact ⟨HR0.out.below hb2, hb2⟩
      clear hW
      obtain ⟨v, g1, g2⟩ := HRW.out.1
      have G1 := Lib.hid g1; have G2 := Lib.hid g2
      have e1 : W.cell? ⟨r, 1, none⟩ = some v := cell_row g1 rfl
      clear g1 g2
      go_wp2_with (at_builtin; refine wpList_append_own _ rfl _ _ 32 rfl (r + 1) 60 i0 (.agg #[.int .i64 0, .int .u8 0]) 2 16 Try.underlying32 HI.out HZ0.out HZ1.out HZ2.out rfl (by decide) v es.length (evCells es) rfl (G2.out.alloc _) ⟨W.heap.size, 0, none⟩ 1 1 [.int .i64 (i : Int), .int .u8 2] rfl rfl ?c1 ?c2 ?c3 ?c4 ?c5 ?_)
      case c1 => exact news_at _ _ _ _
      case c2 => intro u hu; simp at hu; rcases hu with rfl | rfl <;> rfl
      case c3 => unfold maxLen; omega
      case c4 => omega
      case c5 => have := HRW.out.1.lt; simp; omega
      intro v' w1 hown hgr _
      have GM := Lib.hid (ev_mid G1.out G2.out hgr)
      have GF := Lib.hid (ev_frame hrl HRW.out.2 G1.out G2.out hgr)
      have GO := Lib.hid hown
      obtain ⟨o, cp, rfl⟩ : ∃ o cp, v' = .slice (some ⟨o, 0, none⟩) (es.length + 1) cp := by
        rcases hown.2 with ⟨_, h0⟩ | ⟨o, c, _, hv, _⟩
        · omega
        · exact ⟨o, c, hv⟩
      have e1' : w1.cell? ⟨r, 1, none⟩ = some v := cell_row GM.out rfl
      have e2' : w1.cell? ⟨r, 2, none⟩ = some (.bool false) := cell_row GM.out rfl
      have f1' : w1.frozen? ⟨r, 1, none⟩ = false := frozen_of_row _ _ _ _ _ GM.out
      have f2' : w1.frozen? ⟨r, 2, none⟩ = false := frozen_of_row _ _ _ _ _ GM.out
      clear hown hgr e1
      go_wp2_with fail
      go_ret2
      exact ⟨rfl, ref_set1 GM.out GO.out, GF.out.set _ _⟩
    · clear ha K2
      go_enter Try.func11, Try.ntmps11
      go_wp2_with fail
      refine HC.out.mono ?_
      rintro e w1 ⟨rfl, rfl⟩
      go_wp2_with fail
      go_quiet (fail)
      generalize hW : World.drewN _ _ = W
      have HRW : Hid (RefAt W r (some ⟨b, off, none⟩) len cap es false ∧ Below w.heap.size w W) := by
        have hb2 : Below w.heap.size w W := by rw [← hW]; exact below_drewN (((Below.refl _ _).alloc (Nat.le_refl _) _).alloc (by simp) _)
        exact ⟨HR0.out.below hb2, hb2⟩
      clear hW
      obtain ⟨v, g1, g2⟩ := HRW.out.1
      have G1 := Lib.hid g1; have G2 := Lib.hid g2
      have e1 : W.cell? ⟨r, 1, none⟩ = some v := cell_row g1 rfl
      clear g1 g2
      go_wp2_with (at_builtin; refine wpList_append_own _ rfl _ _ 32 rfl (r + 1) 60 i0 (.agg #[.int .i64 0, .int .u8 0]) 2 16 Try.underlying32 HI.out HZ0.out HZ1.out HZ2.out rfl (by decide) v es.length (evCells es) rfl (G2.out.alloc _) ⟨W.heap.size, 0, none⟩ 1 1 [.int .i64 (i : Int), .int .u8 2] rfl rfl ?c1 ?c2 ?c3 ?c4 ?c5 ?_)
      case c1 => exact news_at _ _ _ _
      case c2 => intro u hu; simp at hu; rcases hu with rfl | rfl <;> rfl
      case c3 => unfold maxLen; omega
      case c4 => omega
      case c5 => have := HRW.out.1.lt; simp; omega
      intro v' w1 hown hgr _
      have GM := Lib.hid (ev_mid G1.out G2.out hgr)
      have GF := Lib.hid (ev_frame hrl HRW.out.2 G1.out G2.out hgr)
      have GO := Lib.hid hown
      obtain ⟨o, cp, rfl⟩ : ∃ o cp, v' = .slice (some ⟨o, 0, none⟩) (es.length + 1) cp := by
        rcases hown.2 with ⟨_, h0⟩ | ⟨o, c, _, hv, _⟩
        · omega
        · exact ⟨o, c, hv⟩
      have e1' : w1.cell? ⟨r, 1, none⟩ = some v := cell_row GM.out rfl
      have e2' : w1.cell? ⟨r, 2, none⟩ = some (.bool false) := cell_row GM.out rfl
      have f1' : w1.frozen? ⟨r, 1, none⟩ = false := frozen_of_row _ _ _ _ _ GM.out
      have f2' : w1.frozen? ⟨r, 2, none⟩ = false := frozen_of_row _ _ _ _ _ GM.out
      clear hown hgr e1
      go_wp2_with fail
      go_ret2
      exact ⟨rfl, ref_set1 GM.out GO.out, GF.out.set _ _⟩
    · clear ha K2
      go_enter Try.func11, Try.ntmps11
      go_wp2_with fail
      refine HC.out.mono ?_
      rintro e w1 ⟨rfl, rfl⟩
      go_wp2_with fail
      go_quiet (fail)
      generalize hW : World.drewN _ _ = W
      have HRW : Hid (RefAt W r (some ⟨b, off, none⟩) len cap es false ∧ Below w.heap.size w W) := by
        have hb2 : Below w.heap.size w W := by rw [← hW]; exact below_drewN (((Below.refl _ _).alloc (Nat.le_refl _) _).alloc (by simp) _)
        exact ⟨HR0.out.below hb2, hb2⟩
      clear hW
      obtain ⟨v, g1, g2⟩ := HRW.out.1
      have G1 := Lib.hid g1; have G2 := Lib.hid g2
      have e1 : W.cell? ⟨r, 1, none⟩ = some v := cell_row g1 rfl
      clear g1 g2
      go_wp2_with (at_builtin; refine wpList_append_own _ rfl _ _ 32 rfl (r + 1) 60 i0 (.agg #[.int .i64 0, .int .u8 0]) 2 16 Try.underlying32 HI.out HZ0.out HZ1.out HZ2.out rfl (by decide) v es.length (evCells es) rfl (G2.out.alloc _) ⟨W.heap.size, 0, none⟩ 1 1 [.int .i64 (i : Int), .int .u8 1] rfl rfl ?c1 ?c2 ?c3 ?c4 ?c5 ?_)
      case c1 => exact news_at _ _ _ _
      case c2 => intro u hu; simp at hu; rcases hu with rfl | rfl <;> rfl
      case c3 => unfold maxLen; omega
      case c4 => omega
      case c5 => have := HRW.out.1.lt; simp; omega
      intro v' w1 hown hgr _
      have GM := Lib.hid (ev_mid G1.out G2.out hgr)
      have GF := Lib.hid (ev_frame hrl HRW.out.2 G1.out G2.out hgr)
      have GO := Lib.hid hown
      obtain ⟨o, cp, rfl⟩ : ∃ o cp, v' = .slice (some ⟨o, 0, none⟩) (es.length + 1) cp := by
        rcases hown.2 with ⟨_, h0⟩ | ⟨o, c, _, hv, _⟩
        · omega
        · exact ⟨o, c, hv⟩
      have e1' : w1.cell? ⟨r, 1, none⟩ = some v := cell_row GM.out rfl
      have e2' : w1.cell? ⟨r, 2, none⟩ = some (.bool false) := cell_row GM.out rfl
      have f1' : w1.frozen? ⟨r, 1, none⟩ = false := frozen_of_row _ _ _ _ _ GM.out
      have f2' : w1.frozen? ⟨r, 2, none⟩ = false := frozen_of_row _ _ _ _ _ GM.out
      clear hown hgr e1
      go_wp2_with fail
      go_ret2
      exact ⟨rfl, ref_set1 GM.out GO.out, GF.out.set _ _⟩
    · clear ha K2
      go_enter Try.func11, Try.ntmps11
      go_wp2_with fail
      refine HC.out.mono ?_
      rintro e w1 ⟨rfl, rfl⟩
      go_wp2_with fail
      go_quiet (fail)
      generalize hW : World.drewN _ _ = W
      have HRW : Hid (RefAt W r (some ⟨b, off, none⟩) len cap es false ∧ Below w.heap.size w W) := by
        have hb2 : Below w.heap.size w W := by rw [← hW]; exact below_drewN (((Below.refl _ _).alloc (Nat.le_refl _) _).alloc (by simp) _)
        exact ⟨HR0.out.below hb2, hb2⟩
      clear hW
      obtain ⟨v, g1, g2⟩ := HRW.out.1
      have G1 := Lib.hid g1; have G2 := Lib.hid g2
      have e1 : W.cell? ⟨r, 1, none⟩ = some v := cell_row g1 rfl
      clear g1 g2
      go_wp2_with (at_builtin; refine wpList_append_own _ rfl _ _ 32 rfl (r + 1) 60 i0 (.agg #[.int .i64 0, .int .u8 0]) 2 16 Try.underlying32 HI.out HZ0.out HZ1.out HZ2.out rfl (by decide) v es.length (evCells es) rfl (G2.out.alloc _) ⟨W.heap.size, 0, none⟩ 1 1 [.int .i64 (i : Int), .int .u8 3] rfl rfl ?c1 ?c2 ?c3 ?c4 ?c5 ?_)
      case c1 => exact news_at _ _ _ _
      case c2 => intro u hu; simp at hu; rcases hu with rfl | rfl <;> rfl
      case c3 => unfold maxLen; omega
      case c4 => omega
      case c5 => have := HRW.out.1.lt; simp; omega
      intro v' w1 hown hgr _
      have GM := Lib.hid (ev_mid G1.out G2.out hgr)
      have GF := Lib.hid (ev_frame hrl HRW.out.2 G1.out G2.out hgr)
      have GO := Lib.hid hown
      obtain ⟨o, cp, rfl⟩ : ∃ o cp, v' = .slice (some ⟨o, 0, none⟩) (es.length + 1) cp := by
        rcases hown.2 with ⟨_, h0⟩ | ⟨o, c, _, hv, _⟩
        · omega
        · exact ⟨o, c, hv⟩
      have e1' : w1.cell? ⟨r, 1, none⟩ = some v := cell_row GM.out rfl
      have e2' : w1.cell? ⟨r, 2, none⟩ = some (.bool false) := cell_row GM.out rfl
      have f1' : w1.frozen? ⟨r, 1, none⟩ = false := frozen_of_row _ _ _ _ _ GM.out
      have f2' : w1.frozen? ⟨r, 2, none⟩ = false := frozen_of_row _ _ _ _ _ GM.out
      clear hown hgr e1
      go_wp2_with fail
      go_ret2
      exact ⟨rfl, ref_set2 (ref_set1 GM.out GO.out), (GF.out.set _ _).set _ _⟩
    · clear ha K2
      go_enter Try.func11, Try.ntmps11
      go_wp2_with fail
      refine HC.out.mono ?_
      rintro e w1 ⟨rfl, rfl⟩
      go_wp2_with fail
      go_quiet (fail)
      generalize hW : World.drewN _ _ = W
      have HRW : Hid (RefAt W r (some ⟨b, off, none⟩) len cap es false ∧ Below w.heap.size w W) := by
        have hb2 : Below w.heap.size w W := by rw [← hW]; exact below_drewN (((Below.refl _ _).alloc (Nat.le_refl _) _).alloc (by simp) _)
        exact ⟨HR0.out.below hb2, hb2⟩
      clear hW
      obtain ⟨v, g1, g2⟩ := HRW.out.1
      have G1 := Lib.hid g1; have G2 := Lib.hid g2
      have e1 : W.cell? ⟨r, 1, none⟩ = some v := cell_row g1 rfl
      clear g1 g2
      go_wp2_with (at_builtin; refine wpList_append_own _ rfl _ _ 32 rfl (r + 1) 60 i0 (.agg #[.int .i64 0, .int .u8 0]) 2 16 Try.underlying32 HI.out HZ0.out HZ1.out HZ2.out rfl (by decide) v es.length (evCells es) rfl (G2.out.alloc _) ⟨W.heap.size, 0, none⟩ 1 1 [.int .i64 (i : Int), .int .u8 (act : Int)] rfl rfl ?c1 ?c2 ?c3 ?c4 ?c5 ?_)
      case c1 => exact news_at _ _ _ _
      case c2 => intro u hu; simp at hu; rcases hu with rfl | rfl <;> rfl
      case c3 => unfold maxLen; omega
      case c4 => omega
      case c5 => have := HRW.out.1.lt; simp; omega
      intro v' w1 hown hgr _
      have GM := Lib.hid (ev_mid G1.out G2.out hgr)
      have GF := Lib.hid (ev_frame hrl HRW.out.2 G1.out G2.out hgr)
      have GO := Lib.hid hown
      obtain ⟨o, cp, rfl⟩ : ∃ o cp, v' = .slice (some ⟨o, 0, none⟩) (es.length + 1) cp := by
        rcases hown.2 with ⟨_, h0⟩ | ⟨o, c, _, hv, _⟩
        · omega
        · exact ⟨o, c, hv⟩
      have e1' : w1.cell? ⟨r, 1, none⟩ = some v := cell_row GM.out rfl
      have e2' : w1.cell? ⟨r, 2, none⟩ = some (.bool false) := cell_row GM.out rfl
      have f1' : w1.frozen? ⟨r, 1, none⟩ = false := frozen_of_row _ _ _ _ _ GM.out
      have f2' : w1.frozen? ⟨r, 2, none⟩ = false := frozen_of_row _ _ _ _ _ GM.out
      clear hown hgr e1
      go_wp2_with fail
      go_ret2
      refine ⟨rfl, ?_, GF.out.set _ _⟩
      have hx : decide (act = 3) = false := by simp at e3 ⊢; omega
      rw [hx]
      exact ref_set1 GM.out GO.out
  · rcases K2.out O ha with ⟨rfl, ⟨l1, l4⟩, l2, l3, rfl⟩ | ⟨rfl, ⟨l1, l4⟩, l2, l3, rfl⟩ | ⟨rfl, rfl, rfl⟩ | ⟨rfl, rfl⟩ | ⟨rfl, rfl⟩ | ⟨e1, e2, e3, rfl⟩
    · clear ha K2
      go_enter Try.func11, Try.ntmps11
      go_wp2_with fail
      refine HC.out.mono ?_
      rintro e w1 ⟨rfl, rfl⟩
      go_wp2_with fail
      go_quiet ((go_at_call 19; exact Calls.quiet_of_same ((HRS.out _ (HR0.out.below (below_drewN (((Below.refl _ _).alloc (Nat.le_refl _) _).alloc (by simp) _)))).mono fun _ _ ⟨h1, h2⟩ => ⟨h1, h2.symm⟩)))
      generalize hW : World.drewN _ _ = W
      have HRW : Hid (RefAt W r (some ⟨b, off, none⟩) len cap es false ∧ Below w.heap.size w W) := by
        have hb2 : Below w.heap.size w W := by rw [← hW]; exact below_drewN (((Below.refl _ _).alloc (Nat.le_refl _) _).alloc (by simp) _)
        exact ⟨HR0.out.below hb2, hb2⟩
      clear hW
      obtain ⟨v, g1, g2⟩ := HRW.out.1
      have G1 := Lib.hid g1; have G2 := Lib.hid g2
      have e1 : W.cell? ⟨r, 1, none⟩ = some v := cell_row g1 rfl
      clear g1 g2
      go_wp2_with (at_builtin; refine wpList_append_own _ rfl _ _ 32 rfl (r + 1) 60 i0 (.agg #[.int .i64 0, .int .u8 0]) 2 16 Try.underlying32 HI.out HZ0.out HZ1.out HZ2.out rfl (by decide) v es.length (evCells es) rfl (G2.out.alloc _) ⟨W.heap.size, 0, none⟩ 1 1 [.int .i64 (i : Int), .int .u8 1] rfl rfl ?c1 ?c2 ?c3 ?c4 ?c5 ?_)
      case c1 => exact news_at _ _ _ _
      case c2 => intro u hu; simp at hu; rcases hu with rfl | rfl <;> rfl
      case c3 => unfold maxLen; omega
      case c4 => omega
      case c5 => have := HRW.out.1.lt; simp; omega
      intro v' w1 hown hgr _
      have GM := Lib.hid (ev_mid G1.out G2.out hgr)
      have GF := Lib.hid (ev_frame hrl HRW.out.2 G1.out G2.out hgr)
      have GO := Lib.hid hown
      obtain ⟨o, cp, rfl⟩ : ∃ o cp, v' = .slice (some ⟨o, 0, none⟩) (es.length + 1) cp := by
        rcases hown.2 with ⟨_, h0⟩ | ⟨o, c, _, hv, _⟩
        · omega
        · exact ⟨o, c, hv⟩
      have e1' : w1.cell? ⟨r, 1, none⟩ = some v := cell_row GM.out rfl
      have e2' : w1.cell? ⟨r, 2, none⟩ = some (.bool false) := cell_row GM.out rfl
      have f1' : w1.frozen? ⟨r, 1, none⟩ = false := frozen_of_row _ _ _ _ _ GM.out
      have f2' : w1.frozen? ⟨r, 2, none⟩ = false := frozen_of_row _ _ _ _ _ GM.out
      clear hown hgr e1
      go_wp2_with fail
      go_ret2
      exact ⟨rfl, ref_set1 GM.out GO.out, GF.out.set _ _⟩
    · clear ha K2
      go_enter Try.func11, Try.ntmps11
      go_wp2_with fail
      refine HC.out.mono ?_
      rintro e w1 ⟨rfl, rfl⟩
      go_wp2_with fail
      go_quiet ((go_at_call 19; exact Calls.quiet_of_same ((HRS.out _ (HR0.out.below (below_drewN (((Below.refl _ _).alloc (Nat.le_refl _) _).alloc (by simp) _)))).mono fun _ _ ⟨h1, h2⟩ => ⟨h1, h2.symm⟩)))
      generalize hW : World.drewN _ _ = W
      have HRW : Hid (RefAt W r (some ⟨b, off, none⟩) len cap es false ∧ Below w.heap.size w W) := by
        have hb2 : Below w.heap.size w W := by rw [← hW]; exact below_drewN (((Below.refl _ _).alloc (Nat.le_refl _) _).alloc (by simp) _)
        exact ⟨HR0.out.below hb2, hb2⟩
      clear hW
      obtain ⟨v, g1, g2⟩ := HRW.out.1
      have G1 := Lib.hid g1; have G2 := Lib.hid g2
      have e1 : W.cell? ⟨r, 1, none⟩ = some v := cell_row g1 rfl
      clear g1 g2
      go_wp2_with (at_builtin; refine wpList_append_own _ rfl _ _ 32 rfl (r + 1) 60 i0 (.agg #[.int .i64 0, .int .u8 0]) 2 16 Try.underlying32 HI.out HZ0.out HZ1.out HZ2.out rfl (by decide) v es.length (evCells es) rfl (G2.out.alloc _) ⟨W.heap.size, 0, none⟩ 1 1 [.int .i64 (i : Int), .int .u8 2] rfl rfl ?c1 ?c2 ?c3 ?c4 ?c5 ?_)
      case c1 => exact news_at _ _ _ _
      case c2 => intro u hu; simp at hu; rcases hu with rfl | rfl <;> rfl
      case c3 => unfold maxLen; omega
      case c4 => omega
      case c5 => have := HRW.out.1.lt; simp; omega
      intro v' w1 hown hgr _
      have GM := Lib.hid (ev_mid G1.out G2.out hgr)
      have GF := Lib.hid (ev_frame hrl HRW.out.2 G1.out G2.out hgr)
      have GO := Lib.hid hown
      obtain ⟨o, cp, rfl⟩ : ∃ o cp, v' = .slice (some ⟨o, 0, none⟩) (es.length + 1) cp := by
        rcases hown.2 with ⟨_, h0⟩ | ⟨o, c, _, hv, _⟩
        · omega
        · exact ⟨o, c, hv⟩
      have e1' : w1.cell? ⟨r, 1, none⟩ = some v := cell_row GM.out rfl
      have e2' : w1.cell? ⟨r, 2, none⟩ = some (.bool false) := cell_row GM.out rfl
      have f1' : w1.frozen? ⟨r, 1, none⟩ = false := frozen_of_row _ _ _ _ _ GM.out
      have f2' : w1.frozen? ⟨r, 2, none⟩ = false := frozen_of_row _ _ _ _ _ GM.out
      clear hown hgr e1
      go_wp2_with fail
      go_ret2
      exact ⟨rfl, ref_set1 GM.out GO.out, GF.out.set _ _⟩
    · clear ha K2
      go_enter Try.func11, Try.ntmps11
      go_wp2_with fail
      refine HC.out.mono ?_
      rintro e w1 ⟨rfl, rfl⟩
      go_wp2_with fail
      go_quiet (fail)
      generalize hW : World.drewN _ _ = W
      have HRW : Hid (RefAt W r (some ⟨b, off, none⟩) len cap es false ∧ Below w.heap.size w W) := by
        have hb2 : Below w.heap.size w W := by rw [← hW]; exact below_drewN (((Below.refl _ _).alloc (Nat.le_refl _) _).alloc (by simp) _)
        exact ⟨HR0.out.below hb2, hb2⟩
      clear hW
      obtain ⟨v, g1, g2⟩ := HRW.out.1
      have G1 := Lib.hid g1; have G2 := Lib.hid g2
      have e1 : W.cell? ⟨r, 1, none⟩ = some v := cell_row g1 rfl
      clear g1 g2
      go_wp2_with (at_builtin; refine wpList_append_own _ rfl _ _ 32 rfl (r + 1) 60 i0 (.agg #[.int .i64 0, .int .u8 0]) 2 16 Try.underlying32 HI.out HZ0.out HZ1.out HZ2.out rfl (by decide) v es.length (evCells es) rfl (G2.out.alloc _) ⟨W.heap.size, 0, none⟩ 1 1 [.int .i64 (i : Int), .int .u8 2] rfl rfl ?c1 ?c2 ?c3 ?c4 ?c5 ?_)
      case c1 => exact news_at _ _ _ _
      case c2 => intro u hu; simp at hu; rcases hu with rfl | rfl <;> rfl
      case c3 => unfold maxLen; omega
      case c4 => omega
      case c5 => have := HRW.out.1.lt; simp; omega
      intro v' w1 hown hgr _
      have GM := Lib.hid (ev_mid G1.out G2.out hgr)
      have GF := Lib.hid (ev_frame hrl HRW.out.2 G1.out G2.out hgr)
      have GO := Lib.hid hown
      obtain ⟨o, cp, rfl⟩ : ∃ o cp, v' = .slice (some ⟨o, 0, none⟩) (es.length + 1) cp := by
        rcases hown.2 with ⟨_, h0⟩ | ⟨o, c, _, hv, _⟩
        · omega
        · exact ⟨o, c, hv⟩
      have e1' : w1.cell? ⟨r, 1, none⟩ = some v := cell_row GM.out rfl
      have e2' : w1.cell? ⟨r, 2, none⟩ = some (.bool false) := cell_row GM.out rfl
      have f1' : w1.frozen? ⟨r, 1, none⟩ = false := frozen_of_row _ _ _ _ _ GM.out
      have f2' : w1.frozen? ⟨r, 2, none⟩ = false := frozen_of_row _ _ _ _ _ GM.out
      clear hown hgr e1
      go_wp2_with fail
      go_ret2
      exact ⟨rfl, ref_set1 GM.out GO.out, GF.out.set _ _⟩
    · clear ha K2
      go_enter Try.func11, Try.ntmps11
      go_wp2_with fail
      refine HC.out.mono ?_
      rintro e w1 ⟨rfl, rfl⟩
      go_wp2_with fail
      go_quiet (fail)
      generalize hW : World.drewN _ _ = W
      have HRW : Hid (RefAt W r (some ⟨b, off, none⟩) len cap es false ∧ Below w.heap.size w W) := by
        have hb2 : Below w.heap.size w W := by rw [← hW]; exact below_drewN (((Below.refl _ _).alloc (Nat.le_refl _) _).alloc (by simp) _)
        exact ⟨HR0.out.below hb2, hb2⟩
      clear hW
      obtain ⟨v, g1, g2⟩ := HRW.out.1
      have G1 := Lib.hid g1; have G2 := Lib.hid g2
      have e1 : W.cell? ⟨r, 1, none⟩ = some v := cell_row g1 rfl
      clear g1 g2
      go_wp2_with (at_builtin; refine wpList_append_own _ rfl _ _ 32 rfl (r + 1) 60 i0 (.agg #[.int .i64 0, .int .u8 0]) 2 16 Try.underlying32 HI.out HZ0.out HZ1.out HZ2.out rfl (by decide) v es.length (evCells es) rfl (G2.out.alloc _) ⟨W.heap.size, 0, none⟩ 1 1 [.int .i64 (i : Int), .int .u8 1] rfl rfl ?c1 ?c2 ?c3 ?c4 ?c5 ?_)
      case c1 => exact news_at _ _ _ _
      case c2 => intro u hu; simp at hu; rcases hu with rfl | rfl <;> rfl
      case c3 => unfold maxLen; omega
      case c4 => omega
      case c5 => have := HRW.out.1.lt; simp; omega
      intro v' w1 hown hgr _
      have GM := Lib.hid (ev_mid G1.out G2.out hgr)
      have GF := Lib.hid (ev_frame hrl HRW.out.2 G1.out G2.out hgr)
      have GO := Lib.hid hown
      obtain ⟨o, cp, rfl⟩ : ∃ o cp, v' = .slice (some ⟨o, 0, none⟩) (es.length + 1) cp := by
        rcases hown.2 with ⟨_, h0⟩ | ⟨o, c, _, hv, _⟩
        · omega
        · exact ⟨o, c, hv⟩
      have e1' : w1.cell? ⟨r, 1, none⟩ = some v := cell_row GM.out rfl
      have e2' : w1.cell? ⟨r, 2, none⟩ = some (.bool false) := cell_row GM.out rfl
      have f1' : w1.frozen? ⟨r, 1, none⟩ = false := frozen_of_row _ _ _ _ _ GM.out
      have f2' : w1.frozen? ⟨r, 2, none⟩ = false := frozen_of_row _ _ _ _ _ GM.out
      clear hown hgr e1
      go_wp2_with fail
      go_ret2
      exact ⟨rfl, ref_set1 GM.out GO.out, GF.out.set _ _⟩
    · clear ha K2
      go_enter Try.func11, Try.ntmps11
      go_wp2_with fail
      refine HC.out.mono ?_
      rintro e w1 ⟨rfl, rfl⟩
      go_wp2_with fail
      go_quiet (fail)
      generalize hW : World.drewN _ _ = W
      have HRW : Hid (RefAt W r (some ⟨b, off, none⟩) len cap es false ∧ Below w.heap.size w W) := by
        have hb2 : Below w.heap.size w W := by rw [← hW]; exact below_drewN (((Below.refl _ _).alloc (Nat.le_refl _) _).alloc (by simp) _)
        exact ⟨HR0.out.below hb2, hb2⟩
      clear hW
      obtain ⟨v, g1, g2⟩ := HRW.out.1
      have G1 := Lib.hid g1; have G2 := Lib.hid g2
      have e1 : W.cell? ⟨r, 1, none⟩ = some v := cell_row g1 rfl
      clear g1 g2
      go_wp2_with (at_builtin; refine wpList_append_own _ rfl _ _ 32 rfl (r + 1) 60 i0 (.agg #[.int .i64 0, .int .u8 0]) 2 16 Try.underlying32 HI.out HZ0.out HZ1.out HZ2.out rfl (by decide) v es.length (evCells es) rfl (G2.out.alloc _) ⟨W.heap.size, 0, none⟩ 1 1 [.int .i64 (i : Int), .int .u8 3] rfl rfl ?c1 ?c2 ?c3 ?c4 ?c5 ?_)
      case c1 => exact news_at _ _ _ _
      case c2 => intro u hu; simp at hu; rcases hu with rfl | rfl <;> rfl
      case c3 => unfold maxLen; omega
      case c4 => omega
      case c5 => have := HRW.out.1.lt; simp; omega
      intro v' w1 hown hgr _
      have GM := Lib.hid (ev_mid G1.out G2.out hgr)
      have GF := Lib.hid (ev_frame hrl HRW.out.2 G1.out G2.out hgr)
      have GO := Lib.hid hown
      obtain ⟨o, cp, rfl⟩ : ∃ o cp, v' = .slice (some ⟨o, 0, none⟩) (es.length + 1) cp := by
        rcases hown.2 with ⟨_, h0⟩ | ⟨o, c, _, hv, _⟩
        · omega
        · exact ⟨o, c, hv⟩
      have e1' : w1.cell? ⟨r, 1, none⟩ = some v := cell_row GM.out rfl
      have e2' : w1.cell? ⟨r, 2, none⟩ = some (.bool false) := cell_row GM.out rfl
      have f1' : w1.frozen? ⟨r, 1, none⟩ = false := frozen_of_row _ _ _ _ _ GM.out
      have f2' : w1.frozen? ⟨r, 2, none⟩ = false := frozen_of_row _ _ _ _ _ GM.out
      clear hown hgr e1
      go_wp2_with fail
      go_ret2
      exact ⟨rfl, ref_set2 (ref_set1 GM.out GO.out), (GF.out.set _ _).set _ _⟩
    · clear ha K2
      go_enter Try.func11, Try.ntmps11
      go_wp2_with fail
      refine HC.out.mono ?_
      rintro e w1 ⟨rfl, rfl⟩
      go_wp2_with fail
      go_quiet (fail)
      generalize hW : World.drewN _ _ = W
      have HRW : Hid (RefAt W r (some ⟨b, off, none⟩) len cap es false ∧ Below w.heap.size w W) := by
        have hb2 : Below w.heap.size w W := by rw [← hW]; exact below_drewN (((Below.refl _ _).alloc (Nat.le_refl _) _).alloc (by simp) _)
        exact ⟨HR0.out.below hb2, hb2⟩
      clear hW
      obtain ⟨v, g1, g2⟩ := HRW.out.1
      have G1 := Lib.hid g1; have G2 := Lib.hid g2
      have e1 : W.cell? ⟨r, 1, none⟩ = some v := cell_row g1 rfl
      clear g1 g2
      go_wp2_with (at_builtin; refine wpList_append_own _ rfl _ _ 32 rfl (r + 1) 60 i0 (.agg #[.int .i64 0, .int .u8 0]) 2 16 Try.underlying32 HI.out HZ0.out HZ1.out HZ2.out rfl (by decide) v es.length (evCells es) rfl (G2.out.alloc _) ⟨W.heap.size, 0, none⟩ 1 1 [.int .i64 (i : Int), .int .u8 (act : Int)] rfl rfl ?c1 ?c2 ?c3 ?c4 ?c5 ?_)
      case c1 => exact news_at _ _ _ _
      case c2 => intro u hu; simp at hu; rcases hu with rfl | rfl <;> rfl
      case c3 => unfold maxLen; omega
      case c4 => omega
      case c5 => have := HRW.out.1.lt; simp; omega
      intro v' w1 hown hgr _
      have GM := Lib.hid (ev_mid G1.out G2.out hgr)
      have GF := Lib.hid (ev_frame hrl HRW.out.2 G1.out G2.out hgr)
      have GO := Lib.hid hown
      obtain ⟨o, cp, rfl⟩ : ∃ o cp, v' = .slice (some ⟨o, 0, none⟩) (es.length + 1) cp := by
        rcases hown.2 with ⟨_, h0⟩ | ⟨o, c, _, hv, _⟩
        · omega
        · exact ⟨o, c, hv⟩
      have e1' : w1.cell? ⟨r, 1, none⟩ = some v := cell_row GM.out rfl
      have e2' : w1.cell? ⟨r, 2, none⟩ = some (.bool false) := cell_row GM.out rfl
      have f1' : w1.frozen? ⟨r, 1, none⟩ = false := frozen_of_row _ _ _ _ _ GM.out
      have f2' : w1.frozen? ⟨r, 2, none⟩ = false := frozen_of_row _ _ _ _ _ GM.out
      clear hown hgr e1
      go_wp2_with fail
      go_ret2
      refine ⟨rfl, ?_, GF.out.set _ _⟩
      have hx : decide (act = 3) = false := by simp at e3 ⊢; omega
      rw [hx]
      exact ref_set1 GM.out GO.out
  · subst ha
    clear K2
    go_enter Try.func11, Try.ntmps11
    go_wp2_with fail
    refine HC.out.mono ?_
    rintro e w1 ⟨rfl, rfl⟩
    go_wp2_with fail
    go_quiet (fail)
    generalize hW : World.drewN _ _ = W
    have HRW : Hid (RefAt W r (some ⟨b, off, none⟩) len cap es false ∧ Below w.heap.size w W) := by
      have hb2 : Below w.heap.size w W := by rw [← hW]; exact below_drewN (((Below.refl _ _).alloc (Nat.le_refl _) _).alloc (by simp) _)
      exact ⟨HR0.out.below hb2, hb2⟩
    clear hW
    obtain ⟨v, g1, g2⟩ := HRW.out.1
    have G1 := Lib.hid g1; have G2 := Lib.hid g2
    have e1 : W.cell? ⟨r, 1, none⟩ = some v := cell_row g1 rfl
    clear g1 g2
    go_wp2_with (at_builtin; refine wpList_append_own _ rfl _ _ 32 rfl (r + 1) 60 i0 (.agg #[.int .i64 0, .int .u8 0]) 2 16 Try.underlying32 HI.out HZ0.out HZ1.out HZ2.out rfl (by decide) v es.length (evCells es) rfl (G2.out.alloc _) ⟨W.heap.size, 0, none⟩ 1 1 [.int .i64 (i : Int), .int .u8 0] rfl rfl ?c1 ?c2 ?c3 ?c4 ?c5 ?_)
    case c1 => exact news_at _ _ _ _
    case c2 => intro u hu; simp at hu; rcases hu with rfl | rfl <;> rfl
    case c3 => unfold maxLen; omega
    case c4 => omega
    case c5 => have := HRW.out.1.lt; simp; omega
    intro v' w1 hown hgr _
    have GM := Lib.hid (ev_mid G1.out G2.out hgr)
    have GF := Lib.hid (ev_frame hrl HRW.out.2 G1.out G2.out hgr)
    have GO := Lib.hid hown
    obtain ⟨o, cp, rfl⟩ : ∃ o cp, v' = .slice (some ⟨o, 0, none⟩) (es.length + 1) cp := by
      rcases hown.2 with ⟨_, h0⟩ | ⟨o, c, _, hv, _⟩
      · omega
      · exact ⟨o, c, hv⟩
    have e1' : w1.cell? ⟨r, 1, none⟩ = some v := cell_row GM.out rfl
    have e2' : w1.cell? ⟨r, 2, none⟩ = some (.bool false) := cell_row GM.out rfl
    have f1' : w1.frozen? ⟨r, 1, none⟩ = false := frozen_of_row _ _ _ _ _ GM.out
    have f2' : w1.frozen? ⟨r, 2, none⟩ = false := frozen_of_row _ _ _ _ _ GM.out
    clear hown hgr e1
    go_wp2_with fail
    go_ret2
    exact ⟨rfl, ref_set1 GM.out GO.out, GF.out.set _ _⟩
end Go.Proofs.Ytfbbmapihgepmaa
