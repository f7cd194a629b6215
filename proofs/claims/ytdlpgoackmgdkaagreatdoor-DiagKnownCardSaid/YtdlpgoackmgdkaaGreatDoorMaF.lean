/- The document's machine: inputs, outputs, ports. -/
import Derived.Test.YtdlpgoackmgdkaaGreatDoorMaAC
import Derived.Test.YtdlpgoackmgdkaaGreatDoorTake
namespace Go.Proofs.YtdlpgoackmgdkaaGreatDoor
open Go.RowKit
set_option linter.unusedVariables false
set_option linter.unusedSimpArgs false
/-- Cells of the machine's block, by number. -/
theorem machV_in (u : Mb) (S : MS) (sv : Value) (m : Nat) {a : Nat} (h : a < 16) : machV u S sv m (2 + a) = .int .u32 (S.ins a : Int) := by
  unfold machV; rw [if_neg (by omega), if_neg (by omega), if_pos (by omega), show 2 + a - 2 = a by omega]
theorem machV_port (u : Mb) (S : MS) (sv : Value) (m : Nat) {a : Nat} (h : a < 256) : machV u S sv m (18 + a) = .int .u32 (S.ports a : Int) := by
  unfold machV; rw [if_neg (by omega), if_neg (by omega), if_neg (by omega), if_pos (by omega), show 18 + a - 18 = a by omega]
theorem machV_outs (u : Mb) (S : MS) (sv : Value) (m : Nat) {a : Nat} (h : a < 16) : machV u S sv m (290 + a) = .int .u32 (S.outs a : Int) := by
  unfold machV; iterate 5 rw [if_neg (by omega)]
  rw [if_pos (by omega), show 290 + a - 290 = a by omega]
theorem machV_out (u : Mb) (S : MS) (sv : Value) (m : Nat) {a : Nat} (h : a < 16) : machV u S sv m (306 + a) = .int .i64 (S.out a : Int) := by
  unfold machV; iterate 6 rw [if_neg (by omega)]
  rw [if_pos (by omega), show 306 + a - 306 = a by omega]
theorem machV_puts (u : Mb) (S : MS) (sv : Value) (m : Nat) {a : Nat} (h : a < 256) : machV u S sv m (322 + a) = .int .u32 (S.puts a : Int) := by
  unfold machV; iterate 7 rw [if_neg (by omega)]
  rw [if_pos (by omega), show 322 + a - 322 = a by omega]
theorem machV_sent (u : Mb) (S : MS) (sv : Value) (m : Nat) {a : Nat} (h : a < 16) : machV u S sv m (578 + a) = .int .i64 (S.sent a : Int) := by
  unfold machV; iterate 8 rw [if_neg (by omega)]
  rw [if_pos (by omega), show 578 + a - 578 = a by omega]
theorem set_outs (u : Mb) (S : MS) (sv : Value) (m a x : Nat) (h : a < 16) : ∀ j, j < 598 → (if j = 290 + a then Value.int .u32 (x : Int) else machV u S sv m j) = machV u { S with outs := upd S.outs a x } sv m j := fun j hj => by
  by_cases e : j = 290 + a
  · subst e
    rw [if_pos rfl]
    exact ((machV_outs u { S with outs := upd S.outs a x } sv m h).trans (by rw [show ({ S with outs := upd S.outs a x } : MS).outs a = x from upd_same _ _ _])).symm
  · rw [if_neg e]
    unfold machV
    dsimp only
    repeat (first | (refine ite_congr rfl (fun _ => by with_reducible rfl) fun _ => ?_) | (refine ite_congr rfl (fun h1 => by rw [upd_other (by omega)]) fun _ => ?_))
    with_reducible rfl
theorem set_out (u : Mb) (S : MS) (sv : Value) (m a x : Nat) (h : a < 16) : ∀ j, j < 598 → (if j = 306 + a then Value.int .i64 (x : Int) else machV u S sv m j) = machV u { S with out := upd S.out a x } sv m j := fun j hj => by
  by_cases e : j = 306 + a
  · subst e
    rw [if_pos rfl]
    exact ((machV_out u { S with out := upd S.out a x } sv m h).trans (by rw [show ({ S with out := upd S.out a x } : MS).out a = x from upd_same _ _ _])).symm
  · rw [if_neg e]
    unfold machV
    dsimp only
    repeat (first | (refine ite_congr rfl (fun _ => by with_reducible rfl) fun _ => ?_) | (refine ite_congr rfl (fun h1 => by rw [upd_other (by omega)]) fun _ => ?_))
    with_reducible rfl
theorem set_puts (u : Mb) (S : MS) (sv : Value) (m a x : Nat) (h : a < 256) : ∀ j, j < 598 → (if j = 322 + a then Value.int .u32 (x : Int) else machV u S sv m j) = machV u { S with puts := upd S.puts a x } sv m j := fun j hj => by
  by_cases e : j = 322 + a
  · subst e
    rw [if_pos rfl]
    exact ((machV_puts u { S with puts := upd S.puts a x } sv m h).trans (by rw [show ({ S with puts := upd S.puts a x } : MS).puts a = x from upd_same _ _ _])).symm
  · rw [if_neg e]
    unfold machV
    dsimp only
    repeat (first | (refine ite_congr rfl (fun _ => by with_reducible rfl) fun _ => ?_) | (refine ite_congr rfl (fun h1 => by rw [upd_other (by omega)]) fun _ => ?_))
    with_reducible rfl
theorem set_sent (u : Mb) (S : MS) (sv : Value) (m a x : Nat) (h : a < 16) : ∀ j, j < 598 → (if j = 578 + a then Value.int .i64 (x : Int) else machV u S sv m j) = machV u { S with sent := upd S.sent a x } sv m j := fun j hj => by
  by_cases e : j = 578 + a
  · subst e
    rw [if_pos rfl]
    exact ((machV_sent u { S with sent := upd S.sent a x } sv m h).trans (by rw [show ({ S with sent := upd S.sent a x } : MS).sent a = x from upd_same _ _ _])).symm
  · rw [if_neg e]
    unfold machV
    dsimp only
    repeat (first | (refine ite_congr rfl (fun _ => by with_reducible rfl) fun _ => ?_) | (refine ite_congr rfl (fun h1 => by rw [upd_other (by omega)]) fun _ => ?_))
    with_reducible rfl
theorem only_cell {M : Nat → Prop} {a b : World} (h : Only M a b) {g o : Nat} {v : Option Value} (hc : a.cell? ⟨g, o, none⟩ = v) (hg : g < a.heap.size) (hM : ¬ M g) : b.cell? ⟨g, o, none⟩ = v := (World.cell?_of_block (h.block g hg hM)).trans hc
set_option maxRecDepth 100000 in
set_option maxHeartbeats 4000000 in
theorem field_in (u : Mb) (S : MS) (sv : Value) (m : Nat) (dv : Nat → Nat) (a b c : Nat) (w : World) (h : MA w u S sv m dv) (ha : a < 16) (hb : b < 16) (hl : S.stack.length < 16) :
    Calls Tryz.prog 82 #[.pointer (some ⟨u.b, 0, none⟩), .agg #[.int .u8 21, .int .u8 (a : Int), .int .u16 (b : Int), .int .u32 (c : Int)]] w fun e w' => e = .returned (.tuple #[]) ∧ (∃ sv' m', MA w' u { S with stack := S.ins a :: S.stack } sv' m' dv) ∧ Only (MM u) w w' := by
  have HPM := Lib.hid (fun w' => h.pm (w' := w'))
  obtain ⟨w1, hw1⟩ : ∃ z, z = w.alloc (.cells #[.int .u8 (21 : Int), .int .u8 (a : Int), .int .u16 (b : Int), .int .u32 (c : Int)] 145) := ⟨_, rfl⟩
  have B1 : Hid (Below w.heap.size w w1) := by rw [hw1]; exact alloc_below _ _
  have KX : Hid (w1.heap[w.heap.size]? = some (.cells #[.int .u8 (21 : Int), .int .u8 (a : Int), .int .u16 (b : Int), .int .u32 (c : Int)] 145 (0, 0))) := by rw [hw1]; exact heap_alloc_new _ _
  have M1 := Lib.hid (h.below B1.out)
  have HLO : Hid (u.lo ≤ w.heap.size) := h.mb.lo
  have HW1 := Lib.hid hw1
  have HNG : Hid (¬ PM u sv w.heap.size) := fun hi => hi.elim (fun e => by have := h.mb.ap.1; have := h.mb.lo; omega) (fun e => by have := (h.stk.lt _ e).2; omega)
  clear hw1 h
  obtain ⟨gb, hgb⟩ : ∃ g, g = w.heap.size := ⟨_, rfl⟩
  rw [← hgb] at KX HLO HNG
  have HGB := Lib.hid hgb
  clear hgb
  have i0 := cell_row (j := 0) KX.out rfl
  have i1 := cell_row (j := 1) KX.out rfl
  have i2 := cell_row (j := 2) KX.out rfl
  have hgl := heap_lt KX.out
  have t1 : decide ((16 : Int) ≤ (a : Int)) = false := decide_eq_false (by omega)
  have t2 : decide ((16 : Int) ≤ (b : Int)) = false := decide_eq_false (by omega)
  have j0 : (0 : Int) ≤ (a : Int) := by omega
  have j1 : (a : Int) < 16 := by omega
  have j2 : (0 : Int) ≤ (b : Int) := by omega
  have j3 : (b : Int) < 16 := by omega
  go_enter Tryz.func82, Tryz.ntmps82
  go_upto_region 1 with fail
  rw [← HW1.out, ← HGB.out]
  clear HW1
  go_upto_region 5 with fail
  have x0 : w1.cell? ⟨u.b, 2 + a, none⟩ = some (.int .u32 (S.ins a : Int)) := by rw [M1.out.mb.row.cell (by omega), machV_in _ _ _ _ ha]
  have KS : Hid (∀ W : World, (W.cell? ⟨gb, 1, none⟩ = some (.int .u8 (a : Int)) ∧ W.cell? ⟨gb, 2, none⟩ = some (.int .u16 (b : Int)) ∧ W.cell? ⟨u.b, 2 + a, none⟩ = some (.int .u32 (S.ins a : Int))) → (W.cell? ⟨gb, 1, none⟩ = some (.int .u8 (a : Int)) ∧ W.cell? ⟨gb, 2, none⟩ = some (.int .u16 (b : Int)) ∧ W.cell? ⟨u.b, 2 + a, none⟩ = some (.int .u32 (S.ins a : Int)))) := fun W h => h
  have kb : Hid (∀ W : World, Below w1.heap.size w1 W → (W.cell? ⟨gb, 1, none⟩ = some (.int .u8 (a : Int)) ∧ W.cell? ⟨gb, 2, none⟩ = some (.int .u16 (b : Int)) ∧ W.cell? ⟨u.b, 2 + a, none⟩ = some (.int .u32 (S.ins a : Int)))) := by
    have h1 := i1; have h2 := i2; have h3 := hgl; have h4 := x0; have h5 := M1.out.mb.row.lt
    exact fun W hW => ⟨(hW.cell h3).trans h1, (hW.cell h3).trans h2, (hW.cell h5).trans h4⟩
  refine wp_region_T (fun W => W.cell? ⟨gb, 1, none⟩ = some (.int .u8 (a : Int)) ∧ W.cell? ⟨gb, 2, none⟩ = some (.int .u16 (b : Int)) ∧ W.cell? ⟨u.b, 2 + a, none⟩ = some (.int .u32 (S.ins a : Int))) [] (by kernel_rfl) ?_
  change wpAnyT _ _ _ _ _ _ _ _ _ (World.drew _)
  have S1 := kb.out w1.drew (Below.drew (Below.refl _ w1))
  refine wpAnyT_pure (i := 0) (v := ?_) rfl (by kernel_rfl) (by kernel_rfl) (by kernel_rfl) (by kernel_rfl) (fun _ _ _ h => h) (Or.inl ⟨by kernel_rfl, ?_⟩) (fun _ => by assumption) ?_
  rotate_left
  · intro V hV; clear hV; go_simp; try (with_reducible rfl)
  try simp only [Act.put, List.getElem_toArray, List.getElem_cons_succ, List.getElem_cons_zero, List.setIfInBounds_toArray, List.set_cons_zero, List.set_cons_succ]
  refine wpAnyT_pure (i := 1) (v := ?_) rfl (by kernel_rfl) (by kernel_rfl) (by kernel_rfl) (by kernel_rfl) (fun _ _ _ h => h) (Or.inl ⟨by kernel_rfl, ?_⟩) (fun _ => by assumption) ?_
  rotate_left
  · intro V hV; clear hV; go_simp; try (with_reducible rfl)
  try simp only [Act.put, List.getElem_toArray, List.getElem_cons_succ, List.getElem_cons_zero, List.setIfInBounds_toArray, List.set_cons_zero, List.set_cons_succ]
  refine wpAnyT_pure (i := 2) (v := ?_) rfl (by kernel_rfl) (by kernel_rfl) (by kernel_rfl) (by kernel_rfl) (fun _ _ _ h => h) (Or.inl ⟨by kernel_rfl, ?_⟩) (fun _ => by assumption) ?_
  rotate_left
  · intro V hV; clear hV; go_simp; try (with_reducible rfl)
  try simp only [Act.put, List.getElem_toArray, List.getElem_cons_succ, List.getElem_cons_zero, List.setIfInBounds_toArray, List.set_cons_zero, List.set_cons_succ]
  refine wpAnyT_take (i := 3) (v := ?_) rfl (by kernel_rfl) (by kernel_rfl) (by kernel_rfl) (by kernel_rfl) (fun _ _ _ h => h) (Or.inl ⟨by kernel_rfl, ?_⟩) (by assumption) ?_
  rotate_left
  · intro V hV; have k := KS.out V hV; clear hV; go_simp; try (with_reducible rfl)
  try simp only [Act.put, List.getElem_toArray, List.getElem_cons_succ, List.getElem_cons_zero, List.setIfInBounds_toArray, List.set_cons_zero, List.set_cons_succ]
  refine wpAnyT_pure (i := 4) (v := ?_) rfl (by kernel_rfl) (by kernel_rfl) (by kernel_rfl) (by kernel_rfl) (fun _ _ _ h => h) (Or.inl ⟨by kernel_rfl, ?_⟩) (fun _ => by assumption) ?_
  rotate_left
  · intro V hV; clear hV; go_simp; try (with_reducible rfl)
  try simp only [Act.put, List.getElem_toArray, List.getElem_cons_succ, List.getElem_cons_zero, List.setIfInBounds_toArray, List.set_cons_zero, List.set_cons_succ]
  refine wpAnyT_pure (i := 5) (v := ?_) rfl (by kernel_rfl) (by kernel_rfl) (by kernel_rfl) (by kernel_rfl) (fun _ _ _ h => h) (Or.inl ⟨by kernel_rfl, ?_⟩) (fun _ => by assumption) ?_
  rotate_left
  · intro V hV; clear hV; go_simp; try (with_reducible rfl)
  try simp only [Act.put, List.getElem_toArray, List.getElem_cons_succ, List.getElem_cons_zero, List.setIfInBounds_toArray, List.set_cons_zero, List.set_cons_succ]
  refine wpAnyT_pure (i := 6) (v := ?_) rfl (by kernel_rfl) (by kernel_rfl) (by kernel_rfl) (by kernel_rfl) (fun _ _ _ h => h) (Or.inl ⟨by kernel_rfl, ?_⟩) (fun _ => by assumption) ?_
  rotate_left
  · intro V hV; clear hV; go_simp; try (with_reducible rfl)
  try simp only [Act.put, List.getElem_toArray, List.getElem_cons_succ, List.getElem_cons_zero, List.setIfInBounds_toArray, List.set_cons_zero, List.set_cons_succ]
  refine wpAnyT_take (i := 7) (v := ?_) rfl (by kernel_rfl) (by kernel_rfl) (by kernel_rfl) (by kernel_rfl) (fun _ _ _ h => h) (Or.inl ⟨by kernel_rfl, ?_⟩) (by assumption) ?_
  rotate_left
  · intro V hV; have k := KS.out V hV; clear hV; go_simp; try (with_reducible rfl)
  try simp only [Act.put, List.getElem_toArray, List.getElem_cons_succ, List.getElem_cons_zero, List.setIfInBounds_toArray, List.set_cons_zero, List.set_cons_succ]
  have HP := Lib.hid (push_any u S sv m dv (S.ins a) w1.drew M1.out.drew (M1.out.ok.ins a) hl)
  clear S1 x0
  refine wpAnyT_one (i := 8) (by kernel_rfl) rfl (fun K hK => ?_)
  go_simp
  refine HP.out.mono ?_
  rintro e w2 ⟨rfl, ⟨sv2, m2, h2⟩, o2⟩
  have S2 : (fun W : World => W.cell? ⟨gb, 1, none⟩ = some (.int .u8 (a : Int)) ∧ W.cell? ⟨gb, 2, none⟩ = some (.int .u16 (b : Int)) ∧ W.cell? ⟨u.b, 2 + a, none⟩ = some (.int .u32 (S.ins a : Int))) w2 := ⟨only_cell o2 i1 hgl HNG.out, only_cell o2 i2 hgl HNG.out, by rw [h2.mb.row.cell (by omega), machV_in _ _ _ _ ha]⟩
  refine hK.out _ _ (fun _ => S2) ?_
  have O2 : Hid (Only (MM u) w w2) := (Only.of_below _ (B1.out.trans (Below.drew (Below.refl _ _)))).trans (M1.out.drew.pm o2)
  have H2 := Lib.hid h2
  clear hK K S2 i0 i1 i2 o2 h2 HP
  try simp only [Act.put, List.getElem_toArray, List.getElem_cons_succ, List.getElem_cons_zero, List.setIfInBounds_toArray, List.set_cons_zero, List.set_cons_succ]
  refine wpAnyT_done (by kernel_rfl) ?_ _
  go_wp2_with fail
  go_end0
  exact ⟨rfl, ⟨_, _, H2.out⟩, O2.out⟩
set_option maxRecDepth 100000 in
set_option maxHeartbeats 4000000 in
theorem field_read (u : Mb) (S : MS) (sv : Value) (m : Nat) (dv : Nat → Nat) (a b c : Nat) (w : World) (h : MA w u S sv m dv) (ha : a < 16) (hb : b < 16) (hl : S.stack.length < 16) :
    Calls Tryz.prog 82 #[.pointer (some ⟨u.b, 0, none⟩), .agg #[.int .u8 23, .int .u8 (a : Int), .int .u16 (b : Int), .int .u32 (c : Int)]] w fun e w' => e = .returned (.tuple #[]) ∧ (∃ sv' m', MA w' u { S with stack := S.ports (a * 16 + b) :: S.stack } sv' m' dv) ∧ Only (MM u) w w' := by
  have HPM := Lib.hid (fun w' => h.pm (w' := w'))
  obtain ⟨w1, hw1⟩ : ∃ z, z = w.alloc (.cells #[.int .u8 (23 : Int), .int .u8 (a : Int), .int .u16 (b : Int), .int .u32 (c : Int)] 145) := ⟨_, rfl⟩
  have B1 : Hid (Below w.heap.size w w1) := by rw [hw1]; exact alloc_below _ _
  have KX : Hid (w1.heap[w.heap.size]? = some (.cells #[.int .u8 (23 : Int), .int .u8 (a : Int), .int .u16 (b : Int), .int .u32 (c : Int)] 145 (0, 0))) := by rw [hw1]; exact heap_alloc_new _ _
  have M1 := Lib.hid (h.below B1.out)
  have HLO : Hid (u.lo ≤ w.heap.size) := h.mb.lo
  have HW1 := Lib.hid hw1
  have HNG : Hid (¬ PM u sv w.heap.size) := fun hi => hi.elim (fun e => by have := h.mb.ap.1; have := h.mb.lo; omega) (fun e => by have := (h.stk.lt _ e).2; omega)
  clear hw1 h
  obtain ⟨gb, hgb⟩ : ∃ g, g = w.heap.size := ⟨_, rfl⟩
  rw [← hgb] at KX HLO HNG
  have HGB := Lib.hid hgb
  clear hgb
  have i0 := cell_row (j := 0) KX.out rfl
  have i1 := cell_row (j := 1) KX.out rfl
  have i2 := cell_row (j := 2) KX.out rfl
  have hgl := heap_lt KX.out
  have t1 : decide ((16 : Int) ≤ (a : Int)) = false := decide_eq_false (by omega)
  have t2 : decide ((16 : Int) ≤ (b : Int)) = false := decide_eq_false (by omega)
  have j0 : (0 : Int) ≤ (a : Int) := by omega
  have j1 : (a : Int) < 16 := by omega
  have j2 : (0 : Int) ≤ (b : Int) := by omega
  have j3 : (b : Int) < 16 := by omega
  go_enter Tryz.func82, Tryz.ntmps82
  go_upto_region 1 with fail
  rw [← HW1.out, ← HGB.out]
  clear HW1
  go_upto_region 10 with fail
  have x0 : w1.cell? ⟨u.b, 18 + a * 16 + b, none⟩ = some (.int .u32 (S.ports (a * 16 + b) : Int)) := by rw [M1.out.mb.row.cell (by omega), show 18 + a * 16 + b = 18 + (a * 16 + b) by omega, machV_port _ _ _ _ (show a * 16 + b < 256 by omega)]
  have KS : Hid (∀ W : World, (W.cell? ⟨gb, 1, none⟩ = some (.int .u8 (a : Int)) ∧ W.cell? ⟨gb, 2, none⟩ = some (.int .u16 (b : Int)) ∧ W.cell? ⟨u.b, 18 + a * 16 + b, none⟩ = some (.int .u32 (S.ports (a * 16 + b) : Int))) → (W.cell? ⟨gb, 1, none⟩ = some (.int .u8 (a : Int)) ∧ W.cell? ⟨gb, 2, none⟩ = some (.int .u16 (b : Int)) ∧ W.cell? ⟨u.b, 18 + a * 16 + b, none⟩ = some (.int .u32 (S.ports (a * 16 + b) : Int)))) := fun W h => h
  have kb : Hid (∀ W : World, Below w1.heap.size w1 W → (W.cell? ⟨gb, 1, none⟩ = some (.int .u8 (a : Int)) ∧ W.cell? ⟨gb, 2, none⟩ = some (.int .u16 (b : Int)) ∧ W.cell? ⟨u.b, 18 + a * 16 + b, none⟩ = some (.int .u32 (S.ports (a * 16 + b) : Int)))) := by
    have h1 := i1; have h2 := i2; have h3 := hgl; have h4 := x0; have h5 := M1.out.mb.row.lt
    exact fun W hW => ⟨(hW.cell h3).trans h1, (hW.cell h3).trans h2, (hW.cell h5).trans h4⟩
  refine wp_region_T (fun W => W.cell? ⟨gb, 1, none⟩ = some (.int .u8 (a : Int)) ∧ W.cell? ⟨gb, 2, none⟩ = some (.int .u16 (b : Int)) ∧ W.cell? ⟨u.b, 18 + a * 16 + b, none⟩ = some (.int .u32 (S.ports (a * 16 + b) : Int))) [] (by kernel_rfl) ?_
  change wpAnyT _ _ _ _ _ _ _ _ _ (World.drew _)
  have S1 := kb.out w1.drew (Below.drew (Below.refl _ w1))
  refine wpAnyT_pure (i := 0) (v := ?_) rfl (by kernel_rfl) (by kernel_rfl) (by kernel_rfl) (by kernel_rfl) (fun _ _ _ h => h) (Or.inl ⟨by kernel_rfl, ?_⟩) (fun _ => by assumption) ?_
  rotate_left
  · intro V hV; clear hV; go_simp; try (with_reducible rfl)
  try simp only [Act.put, List.getElem_toArray, List.getElem_cons_succ, List.getElem_cons_zero, List.setIfInBounds_toArray, List.set_cons_zero, List.set_cons_succ]
  refine wpAnyT_pure (i := 1) (v := ?_) rfl (by kernel_rfl) (by kernel_rfl) (by kernel_rfl) (by kernel_rfl) (fun _ _ _ h => h) (Or.inl ⟨by kernel_rfl, ?_⟩) (fun _ => by assumption) ?_
  rotate_left
  · intro V hV; clear hV; go_simp; try (with_reducible rfl)
  try simp only [Act.put, List.getElem_toArray, List.getElem_cons_succ, List.getElem_cons_zero, List.setIfInBounds_toArray, List.set_cons_zero, List.set_cons_succ]
  refine wpAnyT_pure (i := 2) (v := ?_) rfl (by kernel_rfl) (by kernel_rfl) (by kernel_rfl) (by kernel_rfl) (fun _ _ _ h => h) (Or.inl ⟨by kernel_rfl, ?_⟩) (fun _ => by assumption) ?_
  rotate_left
  · intro V hV; clear hV; go_simp; try (with_reducible rfl)
  try simp only [Act.put, List.getElem_toArray, List.getElem_cons_succ, List.getElem_cons_zero, List.setIfInBounds_toArray, List.set_cons_zero, List.set_cons_succ]
  refine wpAnyT_take (i := 3) (v := ?_) rfl (by kernel_rfl) (by kernel_rfl) (by kernel_rfl) (by kernel_rfl) (fun _ _ _ h => h) (Or.inl ⟨by kernel_rfl, ?_⟩) (by assumption) ?_
  rotate_left
  · intro V hV; have k := KS.out V hV; clear hV; go_simp; try (with_reducible rfl)
  try simp only [Act.put, List.getElem_toArray, List.getElem_cons_succ, List.getElem_cons_zero, List.setIfInBounds_toArray, List.set_cons_zero, List.set_cons_succ]
  refine wpAnyT_pure (i := 4) (v := ?_) rfl (by kernel_rfl) (by kernel_rfl) (by kernel_rfl) (by kernel_rfl) (fun _ _ _ h => h) (Or.inl ⟨by kernel_rfl, ?_⟩) (fun _ => by assumption) ?_
  rotate_left
  · intro V hV; clear hV; go_simp; try (with_reducible rfl)
  try simp only [Act.put, List.getElem_toArray, List.getElem_cons_succ, List.getElem_cons_zero, List.setIfInBounds_toArray, List.set_cons_zero, List.set_cons_succ]
  refine wpAnyT_take (i := 5) (v := ?_) rfl (by kernel_rfl) (by kernel_rfl) (by kernel_rfl) (by kernel_rfl) (fun _ _ _ h => h) (Or.inl ⟨by kernel_rfl, ?_⟩) (by assumption) ?_
  rotate_left
  · intro V hV; have k := KS.out V hV; clear hV; go_simp; try (with_reducible rfl)
  try simp only [Act.put, List.getElem_toArray, List.getElem_cons_succ, List.getElem_cons_zero, List.setIfInBounds_toArray, List.set_cons_zero, List.set_cons_succ]
  refine wpAnyT_pure (i := 6) (v := ?_) rfl (by kernel_rfl) (by kernel_rfl) (by kernel_rfl) (by kernel_rfl) (fun _ _ _ h => h) (Or.inl ⟨by kernel_rfl, ?_⟩) (fun _ => by assumption) ?_
  rotate_left
  · intro V hV; clear hV; go_simp; try (with_reducible rfl)
  try simp only [Act.put, List.getElem_toArray, List.getElem_cons_succ, List.getElem_cons_zero, List.setIfInBounds_toArray, List.set_cons_zero, List.set_cons_succ]
  refine wpAnyT_pure (i := 7) (v := ?_) rfl (by kernel_rfl) (by kernel_rfl) (by kernel_rfl) (by kernel_rfl) (fun _ _ _ h => h) (Or.inl ⟨by kernel_rfl, ?_⟩) (fun _ => by assumption) ?_
  rotate_left
  · intro V hV; clear hV; go_simp; try (with_reducible rfl)
  try simp only [Act.put, List.getElem_toArray, List.getElem_cons_succ, List.getElem_cons_zero, List.setIfInBounds_toArray, List.set_cons_zero, List.set_cons_succ]
  refine wpAnyT_pure (i := 8) (v := ?_) rfl (by kernel_rfl) (by kernel_rfl) (by kernel_rfl) (by kernel_rfl) (fun _ _ _ h => h) (Or.inl ⟨by kernel_rfl, ?_⟩) (fun _ => by assumption) ?_
  rotate_left
  · intro V hV; clear hV; go_simp; try (with_reducible rfl)
  try simp only [Act.put, List.getElem_toArray, List.getElem_cons_succ, List.getElem_cons_zero, List.setIfInBounds_toArray, List.set_cons_zero, List.set_cons_succ]
  refine wpAnyT_pure (i := 9) (v := ?_) rfl (by kernel_rfl) (by kernel_rfl) (by kernel_rfl) (by kernel_rfl) (fun _ _ _ h => h) (Or.inl ⟨by kernel_rfl, ?_⟩) (fun _ => by assumption) ?_
  rotate_left
  · intro V hV; clear hV; go_simp; try (with_reducible rfl)
  try simp only [Act.put, List.getElem_toArray, List.getElem_cons_succ, List.getElem_cons_zero, List.setIfInBounds_toArray, List.set_cons_zero, List.set_cons_succ]
  refine wpAnyT_take (i := 10) (v := ?_) rfl (by kernel_rfl) (by kernel_rfl) (by kernel_rfl) (by kernel_rfl) (fun _ _ _ h => h) (Or.inl ⟨by kernel_rfl, ?_⟩) (by assumption) ?_
  rotate_left
  · intro V hV; have k := KS.out V hV; clear hV; go_simp; try (with_reducible rfl)
  try simp only [Act.put, List.getElem_toArray, List.getElem_cons_succ, List.getElem_cons_zero, List.setIfInBounds_toArray, List.set_cons_zero, List.set_cons_succ]
  have HP := Lib.hid (push_any u S sv m dv (S.ports (a * 16 + b)) w1.drew M1.out.drew (M1.out.ok.ports (a * 16 + b)) hl)
  clear S1 x0
  refine wpAnyT_one (i := 11) (by kernel_rfl) rfl (fun K hK => ?_)
  go_simp
  refine HP.out.mono ?_
  rintro e w2 ⟨rfl, ⟨sv2, m2, h2⟩, o2⟩
  have S2 : (fun W : World => W.cell? ⟨gb, 1, none⟩ = some (.int .u8 (a : Int)) ∧ W.cell? ⟨gb, 2, none⟩ = some (.int .u16 (b : Int)) ∧ W.cell? ⟨u.b, 18 + a * 16 + b, none⟩ = some (.int .u32 (S.ports (a * 16 + b) : Int))) w2 := ⟨only_cell o2 i1 hgl HNG.out, only_cell o2 i2 hgl HNG.out, by rw [h2.mb.row.cell (by omega), show 18 + a * 16 + b = 18 + (a * 16 + b) by omega, machV_port _ _ _ _ (show a * 16 + b < 256 by omega)]⟩
  refine hK.out _ _ (fun _ => S2) ?_
  have O2 : Hid (Only (MM u) w w2) := (Only.of_below _ (B1.out.trans (Below.drew (Below.refl _ _)))).trans (M1.out.drew.pm o2)
  have H2 := Lib.hid h2
  clear hK K S2 i0 i1 i2 o2 h2 HP
  try simp only [Act.put, List.getElem_toArray, List.getElem_cons_succ, List.getElem_cons_zero, List.setIfInBounds_toArray, List.set_cons_zero, List.set_cons_succ]
  refine wpAnyT_done (by kernel_rfl) ?_ _
  go_wp2_with fail
  go_end0
  exact ⟨rfl, ⟨_, _, H2.out⟩, O2.out⟩
set_option maxRecDepth 100000 in
set_option maxHeartbeats 4000000 in
theorem field_put (u : Mb) (S : MS) (sv : Value) (m : Nat) (dv : Nat → Nat) (a b c x : Nat) (r : List Nat) (w : World) (h : MA w u S sv m dv) (ha : a < 16) (hb : b < 16) (hs : S.stack = x :: r) (hout : S.out a < 1000000) :
    Calls Tryz.prog 82 #[.pointer (some ⟨u.b, 0, none⟩), .agg #[.int .u8 25, .int .u8 (a : Int), .int .u16 (b : Int), .int .u32 (c : Int)]] w fun e w' => e = .returned (.tuple #[]) ∧ (∃ sv' m', MA w' u { S with stack := r, puts := upd S.puts (a * 16 + b) x } sv' m' dv) ∧ Only (MM u) w w' := by
  obtain ⟨w1, hw1⟩ : ∃ z, z = w.alloc (.cells #[.int .u8 (25 : Int), .int .u8 (a : Int), .int .u16 (b : Int), .int .u32 (c : Int)] 145) := ⟨_, rfl⟩
  have B1 : Hid (Below w.heap.size w w1) := by rw [hw1]; exact alloc_below _ _
  have KX : Hid (w1.heap[w.heap.size]? = some (.cells #[.int .u8 (25 : Int), .int .u8 (a : Int), .int .u16 (b : Int), .int .u32 (c : Int)] 145 (0, 0))) := by rw [hw1]; exact heap_alloc_new _ _
  have M1 := Lib.hid (h.below B1.out)
  have HLO : Hid (u.lo ≤ w.heap.size) := h.mb.lo
  have HW1 := Lib.hid hw1
  have HNG : Hid (¬ PM u sv w.heap.size) := fun hi => hi.elim (fun e => by have := h.mb.ap.1; have := h.mb.lo; omega) (fun e => by have := (h.stk.lt _ e).2; omega)
  clear hw1 h
  obtain ⟨gb, hgb⟩ : ∃ g, g = w.heap.size := ⟨_, rfl⟩
  rw [← hgb] at KX HLO HNG
  have HGB := Lib.hid hgb
  clear hgb
  have i0 := cell_row (j := 0) KX.out rfl
  have i1 := cell_row (j := 1) KX.out rfl
  have i2 := cell_row (j := 2) KX.out rfl
  have hgl := heap_lt KX.out
  have t1 : decide ((16 : Int) ≤ (a : Int)) = false := decide_eq_false (by omega)
  have t2 : decide ((16 : Int) ≤ (b : Int)) = false := decide_eq_false (by omega)
  have j0 : (0 : Int) ≤ (a : Int) := by omega
  have j1 : (a : Int) < 16 := by omega
  have j2 : (0 : Int) ≤ (b : Int) := by omega
  have j3 : (b : Int) < 16 := by omega
  go_enter Tryz.func82, Tryz.ntmps82
  go_upto_region 1 with fail
  rw [← HW1.out, ← HGB.out]
  clear HW1
  go_upto_region 14 with fail
  have HS := Lib.hid hs
  have KS : Hid (∀ W : World, (W.cell? ⟨gb, 1, none⟩ = some (.int .u8 (a : Int)) ∧ W.cell? ⟨gb, 2, none⟩ = some (.int .u16 (b : Int))) → (W.cell? ⟨gb, 1, none⟩ = some (.int .u8 (a : Int)) ∧ W.cell? ⟨gb, 2, none⟩ = some (.int .u16 (b : Int)))) := fun W h => h
  have kb : Hid (∀ W : World, Below w1.heap.size w1 W → (W.cell? ⟨gb, 1, none⟩ = some (.int .u8 (a : Int)) ∧ W.cell? ⟨gb, 2, none⟩ = some (.int .u16 (b : Int)))) := by
    have h1 := i1; have h2 := i2; have h3 := hgl
    exact fun W hW => ⟨(hW.cell h3).trans h1, (hW.cell h3).trans h2⟩
  refine wp_region_T (fun W => W.cell? ⟨gb, 1, none⟩ = some (.int .u8 (a : Int)) ∧ W.cell? ⟨gb, 2, none⟩ = some (.int .u16 (b : Int))) [11] (by kernel_rfl) ?_
  change wpAnyT _ _ _ _ _ _ _ _ _ (World.drew _)
  have S1 := kb.out w1.drew (Below.drew (Below.refl _ w1))
  refine wpAnyT_pure (i := 0) (v := ?_) rfl (by kernel_rfl) (by kernel_rfl) (by kernel_rfl) (by kernel_rfl) (fun _ _ _ h => h) (Or.inl ⟨by kernel_rfl, ?_⟩) (fun _ => by assumption) ?_
  rotate_left
  · intro V hV; clear hV; go_simp; try (with_reducible rfl)
  try simp only [Act.put, List.getElem_toArray, List.getElem_cons_succ, List.getElem_cons_zero, List.setIfInBounds_toArray, List.set_cons_zero, List.set_cons_succ]
  refine wpAnyT_pure (i := 1) (v := ?_) rfl (by kernel_rfl) (by kernel_rfl) (by kernel_rfl) (by kernel_rfl) (fun _ _ _ h => h) (Or.inl ⟨by kernel_rfl, ?_⟩) (fun _ => by assumption) ?_
  rotate_left
  · intro V hV; clear hV; go_simp; try (with_reducible rfl)
  try simp only [Act.put, List.getElem_toArray, List.getElem_cons_succ, List.getElem_cons_zero, List.setIfInBounds_toArray, List.set_cons_zero, List.set_cons_succ]
  refine wpAnyT_take (i := 2) (v := ?_) rfl (by kernel_rfl) (by kernel_rfl) (by kernel_rfl) (by kernel_rfl) (fun _ _ _ h => h) (Or.inl ⟨by kernel_rfl, ?_⟩) (by assumption) ?_
  rotate_left
  · intro V hV; have k := KS.out V hV; clear hV; go_simp; try (with_reducible rfl)
  try simp only [Act.put, List.getElem_toArray, List.getElem_cons_succ, List.getElem_cons_zero, List.setIfInBounds_toArray, List.set_cons_zero, List.set_cons_succ]
  refine wpAnyT_pure (i := 3) (v := ?_) rfl (by kernel_rfl) (by kernel_rfl) (by kernel_rfl) (by kernel_rfl) (fun _ _ _ h => h) (Or.inl ⟨by kernel_rfl, ?_⟩) (fun _ => by assumption) ?_
  rotate_left
  · intro V hV; clear hV; go_simp; try (with_reducible rfl)
  try simp only [Act.put, List.getElem_toArray, List.getElem_cons_succ, List.getElem_cons_zero, List.setIfInBounds_toArray, List.set_cons_zero, List.set_cons_succ]
  refine wpAnyT_take (i := 4) (v := ?_) rfl (by kernel_rfl) (by kernel_rfl) (by kernel_rfl) (by kernel_rfl) (fun _ _ _ h => h) (Or.inl ⟨by kernel_rfl, ?_⟩) (by assumption) ?_
  rotate_left
  · intro V hV; have k := KS.out V hV; clear hV; go_simp; try (with_reducible rfl)
  try simp only [Act.put, List.getElem_toArray, List.getElem_cons_succ, List.getElem_cons_zero, List.setIfInBounds_toArray, List.set_cons_zero, List.set_cons_succ]
  refine wpAnyT_pure (i := 5) (v := ?_) rfl (by kernel_rfl) (by kernel_rfl) (by kernel_rfl) (by kernel_rfl) (fun _ _ _ h => h) (Or.inl ⟨by kernel_rfl, ?_⟩) (fun _ => by assumption) ?_
  rotate_left
  · intro V hV; clear hV; go_simp; try (with_reducible rfl)
  try simp only [Act.put, List.getElem_toArray, List.getElem_cons_succ, List.getElem_cons_zero, List.setIfInBounds_toArray, List.set_cons_zero, List.set_cons_succ]
  refine wpAnyT_pure (i := 7) (v := ?_) rfl (by kernel_rfl) (by kernel_rfl) (by kernel_rfl) (by kernel_rfl) (fun _ _ _ h => h) (Or.inl ⟨by kernel_rfl, ?_⟩) (fun _ => by assumption) ?_
  rotate_left
  · intro V hV; clear hV; go_simp; try (with_reducible rfl)
  try simp only [Act.put, List.getElem_toArray, List.getElem_cons_succ, List.getElem_cons_zero, List.setIfInBounds_toArray, List.set_cons_zero, List.set_cons_succ]
  refine wpAnyT_pure (i := 8) (v := ?_) rfl (by kernel_rfl) (by kernel_rfl) (by kernel_rfl) (by kernel_rfl) (fun _ _ _ h => h) (Or.inl ⟨by kernel_rfl, ?_⟩) (fun _ => by assumption) ?_
  rotate_left
  · intro V hV; clear hV; go_simp; try (with_reducible rfl)
  try simp only [Act.put, List.getElem_toArray, List.getElem_cons_succ, List.getElem_cons_zero, List.setIfInBounds_toArray, List.set_cons_zero, List.set_cons_succ]
  refine wpAnyT_pure (i := 9) (v := ?_) rfl (by kernel_rfl) (by kernel_rfl) (by kernel_rfl) (by kernel_rfl) (fun _ _ _ h => h) (Or.inl ⟨by kernel_rfl, ?_⟩) (fun _ => by assumption) ?_
  rotate_left
  · intro V hV; clear hV; go_simp; try (with_reducible rfl)
  try simp only [Act.put, List.getElem_toArray, List.getElem_cons_succ, List.getElem_cons_zero, List.setIfInBounds_toArray, List.set_cons_zero, List.set_cons_succ]
  have HP := Lib.hid (pop_any u S sv m dv x r w1.drew M1.out.drew HS.out)
  refine wpAnyT_one (i := 6) (by kernel_rfl) rfl (fun K hK => ?_)
  go_simp
  refine HP.out.mono ?_
  rintro e w2 ⟨rfl, ⟨sv2, h2, -⟩, o2⟩
  have S2 : (fun W : World => W.cell? ⟨gb, 1, none⟩ = some (.int .u8 (a : Int)) ∧ W.cell? ⟨gb, 2, none⟩ = some (.int .u16 (b : Int))) w2 := ⟨only_cell o2 i1 hgl (fun e => HNG.out (.inl e)), only_cell o2 i2 hgl (fun e => HNG.out (.inl e))⟩
  refine hK.out _ _ (fun _ => S2) ?_
  have O2 : Hid (Only (MM u) w w2) := (Only.of_below _ (B1.out.trans (Below.drew (Below.refl _ _)))).trans o2.b
  have H2 := Lib.hid h2
  clear hK K S1 o2 h2 HP
  try simp only [Act.put, List.getElem_toArray, List.getElem_cons_succ, List.getElem_cons_zero, List.setIfInBounds_toArray, List.set_cons_zero, List.set_cons_succ]
  refine wpAnyT_pure (i := 10) (v := ?_) rfl (by kernel_rfl) (by kernel_rfl) (by kernel_rfl) (by kernel_rfl) (fun _ _ _ h => h) (Or.inl ⟨by kernel_rfl, ?_⟩) (fun _ => by assumption) ?_
  rotate_left
  · intro V hV; clear hV; go_simp; try (with_reducible rfl)
  try simp only [Act.put, List.getElem_toArray, List.getElem_cons_succ, List.getElem_cons_zero, List.setIfInBounds_toArray, List.set_cons_zero, List.set_cons_succ]
  have fr : w2.frozen? ⟨u.b, 322 + a * 16 + b, none⟩ = false := H2.out.mb.row.frozen _
  have x0 : w2.cell? ⟨u.b, 322 + a * 16 + b, none⟩ = some (.int .u32 (S.puts (a * 16 + b) : Int)) := by rw [H2.out.mb.row.cell (by omega), show 322 + a * 16 + b = 322 + (a * 16 + b) by omega, machV_puts _ _ _ _ (show a * 16 + b < 256 by omega)]
  clear S2 i0 i1 i2
  refine wpAnyT_one (i := 11) (by kernel_rfl) rfl (fun K hK => ?_)
  go_simp
  refine hK.out _ _ (fun h => absurd (show false = true from h) (by decide)) ?_
  clear hK K
  try simp only [Act.put, List.getElem_toArray, List.getElem_cons_succ, List.getElem_cons_zero, List.setIfInBounds_toArray, List.set_cons_zero, List.set_cons_succ]
  refine wpAnyT_done (by kernel_rfl) ?_ _
  go_wp2_with fail
  go_end0
  obtain ⟨B5, O5⟩ := H2.out.mb.set (322 + (a * 16 + b)) (.int .u32 (x : Int)) (set_puts u { S with stack := r } sv2 m (a * 16 + b) x (by omega)) rfl rfl
  have e : 322 + a * 16 + b = 322 + (a * 16 + b) := by omega
  rw [e]
  exact ⟨rfl, ⟨_, _, B5, stk_set H2.out.mb _ _ H2.out.stk, ⟨H2.out.ok.base, H2.out.ok.data, H2.out.ok.ins, H2.out.ok.ports, H2.out.ok.ages, H2.out.ok.outs, upd_lt H2.out.ok.puts (M1.out.ok.stack x (by rw [HS.out]; simp)), H2.out.ok.stack⟩, H2.out.len, H2.out.most⟩, O2.out.trans O5.b⟩
set_option maxRecDepth 100000 in
set_option maxHeartbeats 4000000 in
theorem field_out (u : Mb) (S : MS) (sv : Value) (m : Nat) (dv : Nat → Nat) (a b c x : Nat) (r : List Nat) (w : World) (h : MA w u S sv m dv) (ha : a < 16) (hb : b < 16) (hs : S.stack = x :: r) (hout : S.out a < 1000000) :
    Calls Tryz.prog 82 #[.pointer (some ⟨u.b, 0, none⟩), .agg #[.int .u8 22, .int .u8 (a : Int), .int .u16 (b : Int), .int .u32 (c : Int)]] w fun e w' => e = .returned (.tuple #[]) ∧ (∃ sv' m', MA w' u { S with stack := r, outs := upd S.outs a x, out := upd S.out a (S.out a + 1) } sv' m' dv) ∧ Only (MM u) w w' := by
  obtain ⟨w1, hw1⟩ : ∃ z, z = w.alloc (.cells #[.int .u8 (22 : Int), .int .u8 (a : Int), .int .u16 (b : Int), .int .u32 (c : Int)] 145) := ⟨_, rfl⟩
  have B1 : Hid (Below w.heap.size w w1) := by rw [hw1]; exact alloc_below _ _
  have KX : Hid (w1.heap[w.heap.size]? = some (.cells #[.int .u8 (22 : Int), .int .u8 (a : Int), .int .u16 (b : Int), .int .u32 (c : Int)] 145 (0, 0))) := by rw [hw1]; exact heap_alloc_new _ _
  have M1 := Lib.hid (h.below B1.out)
  have HLO : Hid (u.lo ≤ w.heap.size) := h.mb.lo
  have HW1 := Lib.hid hw1
  have HNG : Hid (¬ PM u sv w.heap.size) := fun hi => hi.elim (fun e => by have := h.mb.ap.1; have := h.mb.lo; omega) (fun e => by have := (h.stk.lt _ e).2; omega)
  clear hw1 h
  obtain ⟨gb, hgb⟩ : ∃ g, g = w.heap.size := ⟨_, rfl⟩
  rw [← hgb] at KX HLO HNG
  have HGB := Lib.hid hgb
  clear hgb
  have i0 := cell_row (j := 0) KX.out rfl
  have i1 := cell_row (j := 1) KX.out rfl
  have i2 := cell_row (j := 2) KX.out rfl
  have hgl := heap_lt KX.out
  have t1 : decide ((16 : Int) ≤ (a : Int)) = false := decide_eq_false (by omega)
  have t2 : decide ((16 : Int) ≤ (b : Int)) = false := decide_eq_false (by omega)
  have j0 : (0 : Int) ≤ (a : Int) := by omega
  have j1 : (a : Int) < 16 := by omega
  have j2 : (0 : Int) ≤ (b : Int) := by omega
  have j3 : (b : Int) < 16 := by omega
  go_enter Tryz.func82, Tryz.ntmps82
  go_upto_region 1 with fail
  rw [← HW1.out, ← HGB.out]
  clear HW1
  go_upto_region 7 with fail
  have HS := Lib.hid hs
  have KS : Hid (∀ W : World, (W.cell? ⟨gb, 1, none⟩ = some (.int .u8 (a : Int)) ∧ W.cell? ⟨gb, 2, none⟩ = some (.int .u16 (b : Int))) → (W.cell? ⟨gb, 1, none⟩ = some (.int .u8 (a : Int)) ∧ W.cell? ⟨gb, 2, none⟩ = some (.int .u16 (b : Int)))) := fun W h => h
  have kb : Hid (∀ W : World, Below w1.heap.size w1 W → (W.cell? ⟨gb, 1, none⟩ = some (.int .u8 (a : Int)) ∧ W.cell? ⟨gb, 2, none⟩ = some (.int .u16 (b : Int)))) := by
    have h1 := i1; have h2 := i2; have h3 := hgl
    exact fun W hW => ⟨(hW.cell h3).trans h1, (hW.cell h3).trans h2⟩
  refine wp_region_T (fun W => W.cell? ⟨gb, 1, none⟩ = some (.int .u8 (a : Int)) ∧ W.cell? ⟨gb, 2, none⟩ = some (.int .u16 (b : Int))) [8] (by kernel_rfl) ?_
  change wpAnyT _ _ _ _ _ _ _ _ _ (World.drew _)
  have S1 := kb.out w1.drew (Below.drew (Below.refl _ w1))
  refine wpAnyT_pure (i := 0) (v := ?_) rfl (by kernel_rfl) (by kernel_rfl) (by kernel_rfl) (by kernel_rfl) (fun _ _ _ h => h) (Or.inl ⟨by kernel_rfl, ?_⟩) (fun _ => by assumption) ?_
  rotate_left
  · intro V hV; clear hV; go_simp; try (with_reducible rfl)
  try simp only [Act.put, List.getElem_toArray, List.getElem_cons_succ, List.getElem_cons_zero, List.setIfInBounds_toArray, List.set_cons_zero, List.set_cons_succ]
  refine wpAnyT_pure (i := 1) (v := ?_) rfl (by kernel_rfl) (by kernel_rfl) (by kernel_rfl) (by kernel_rfl) (fun _ _ _ h => h) (Or.inl ⟨by kernel_rfl, ?_⟩) (fun _ => by assumption) ?_
  rotate_left
  · intro V hV; clear hV; go_simp; try (with_reducible rfl)
  try simp only [Act.put, List.getElem_toArray, List.getElem_cons_succ, List.getElem_cons_zero, List.setIfInBounds_toArray, List.set_cons_zero, List.set_cons_succ]
  refine wpAnyT_take (i := 2) (v := ?_) rfl (by kernel_rfl) (by kernel_rfl) (by kernel_rfl) (by kernel_rfl) (fun _ _ _ h => h) (Or.inl ⟨by kernel_rfl, ?_⟩) (by assumption) ?_
  rotate_left
  · intro V hV; have k := KS.out V hV; clear hV; go_simp; try (with_reducible rfl)
  try simp only [Act.put, List.getElem_toArray, List.getElem_cons_succ, List.getElem_cons_zero, List.setIfInBounds_toArray, List.set_cons_zero, List.set_cons_succ]
  refine wpAnyT_pure (i := 3) (v := ?_) rfl (by kernel_rfl) (by kernel_rfl) (by kernel_rfl) (by kernel_rfl) (fun _ _ _ h => h) (Or.inl ⟨by kernel_rfl, ?_⟩) (fun _ => by assumption) ?_
  rotate_left
  · intro V hV; clear hV; go_simp; try (with_reducible rfl)
  try simp only [Act.put, List.getElem_toArray, List.getElem_cons_succ, List.getElem_cons_zero, List.setIfInBounds_toArray, List.set_cons_zero, List.set_cons_succ]
  refine wpAnyT_pure (i := 5) (v := ?_) rfl (by kernel_rfl) (by kernel_rfl) (by kernel_rfl) (by kernel_rfl) (fun _ _ _ h => h) (Or.inl ⟨by kernel_rfl, ?_⟩) (fun _ => by assumption) ?_
  rotate_left
  · intro V hV; clear hV; go_simp; try (with_reducible rfl)
  try simp only [Act.put, List.getElem_toArray, List.getElem_cons_succ, List.getElem_cons_zero, List.setIfInBounds_toArray, List.set_cons_zero, List.set_cons_succ]
  refine wpAnyT_pure (i := 6) (v := ?_) rfl (by kernel_rfl) (by kernel_rfl) (by kernel_rfl) (by kernel_rfl) (fun _ _ _ h => h) (Or.inl ⟨by kernel_rfl, ?_⟩) (fun _ => by assumption) ?_
  rotate_left
  · intro V hV; clear hV; go_simp; try (with_reducible rfl)
  try simp only [Act.put, List.getElem_toArray, List.getElem_cons_succ, List.getElem_cons_zero, List.setIfInBounds_toArray, List.set_cons_zero, List.set_cons_succ]
  have HP := Lib.hid (pop_any u S sv m dv x r w1.drew M1.out.drew HS.out)
  refine wpAnyT_one (i := 4) (by kernel_rfl) rfl (fun K hK => ?_)
  go_simp
  refine HP.out.mono ?_
  rintro e w2 ⟨rfl, ⟨sv2, h2, -⟩, o2⟩
  have S2 : (fun W : World => W.cell? ⟨gb, 1, none⟩ = some (.int .u8 (a : Int)) ∧ W.cell? ⟨gb, 2, none⟩ = some (.int .u16 (b : Int))) w2 := ⟨only_cell o2 i1 hgl (fun e => HNG.out (.inl e)), only_cell o2 i2 hgl (fun e => HNG.out (.inl e))⟩
  refine hK.out _ _ (fun _ => S2) ?_
  have O2 : Hid (Only (MM u) w w2) := (Only.of_below _ (B1.out.trans (Below.drew (Below.refl _ _)))).trans o2.b
  have H2 := Lib.hid h2
  clear hK K S1 o2 h2 HP
  try simp only [Act.put, List.getElem_toArray, List.getElem_cons_succ, List.getElem_cons_zero, List.setIfInBounds_toArray, List.set_cons_zero, List.set_cons_succ]
  refine wpAnyT_pure (i := 7) (v := ?_) rfl (by kernel_rfl) (by kernel_rfl) (by kernel_rfl) (by kernel_rfl) (fun _ _ _ h => h) (Or.inl ⟨by kernel_rfl, ?_⟩) (fun _ => by assumption) ?_
  rotate_left
  · intro V hV; clear hV; go_simp; try (with_reducible rfl)
  try simp only [Act.put, List.getElem_toArray, List.getElem_cons_succ, List.getElem_cons_zero, List.setIfInBounds_toArray, List.set_cons_zero, List.set_cons_succ]
  have fr : w2.frozen? ⟨u.b, 290 + a, none⟩ = false := H2.out.mb.row.frozen _
  have x0 : w2.cell? ⟨u.b, 290 + a, none⟩ = some (.int .u32 (S.outs a : Int)) := by rw [H2.out.mb.row.cell (by omega), machV_outs _ _ _ _ ha]
  have I2 := Lib.hid S2
  clear S2 i0 i1 i2
  refine wpAnyT_one (i := 8) (by kernel_rfl) rfl (fun K hK => ?_)
  go_simp
  refine hK.out _ _ (fun h => absurd (show false = true from h) (by decide)) ?_
  clear hK K
  try simp only [Act.put, List.getElem_toArray, List.getElem_cons_succ, List.getElem_cons_zero, List.setIfInBounds_toArray, List.set_cons_zero, List.set_cons_succ]
  refine wpAnyT_done (by kernel_rfl) ?_ _
  obtain ⟨B5, O5⟩ := H2.out.mb.set (290 + a) (.int .u32 (x : Int)) (set_outs u { S with stack := r } sv2 m a x ha) rfl rfl
  have M5 : Hid (MA (w2.setCell ⟨u.b, 290 + a, none⟩ (.int .u32 (x : Int))) u { S with stack := r, outs := upd S.outs a x } sv2 m dv) := ⟨B5, stk_set H2.out.mb _ _ H2.out.stk, ⟨H2.out.ok.base, H2.out.ok.data, H2.out.ok.ins, H2.out.ok.ports, H2.out.ok.ages, upd_lt H2.out.ok.outs (M1.out.ok.stack x (by rw [HS.out]; simp)), H2.out.ok.puts, H2.out.ok.stack⟩, H2.out.len, H2.out.most⟩
  have O6 := Lib.hid (O2.out.trans O5.b)
  have j5 : (w2.setCell ⟨u.b, 290 + a, none⟩ (.int .u32 (x : Int))).cell? ⟨gb, 1, none⟩ = some (.int .u8 (a : Int)) := only_cell O5 I2.out.1 (World.block_lt_of_cell? _ _ I2.out.1) (fun e => HNG.out (.inl e))
  clear fr x0 B5 O5
  generalize w2.setCell ⟨u.b, 290 + a, none⟩ (.int .u32 (x : Int)) = w5 at *
  go_upto_region 8 with fail
  obtain ⟨nn, hnn⟩ : ∃ nn, nn = S.out a := ⟨_, rfl⟩
  have n0 : w5.cell? ⟨u.b, 306 + a, none⟩ = some (.int .i64 (nn : Int)) := by rw [hnn, M5.out.mb.row.cell (by omega), machV_out _ _ _ _ ha]
  have hno : nn < 1000000 := by rw [hnn]; exact hout
  have HNN := Lib.hid hnn
  clear hnn
  have f0 : w5.frozen? ⟨u.b, 306 + a, none⟩ = false := M5.out.mb.row.frozen _
  obtain ⟨B7, O8⟩ := M5.out.mb.set (306 + a) (.int .i64 ((nn + 1 : Nat) : Int)) (set_out u { S with stack := r, outs := upd S.outs a x } sv2 m a (nn + 1) ha) rfl rfl
  have ST7 := Lib.hid (stk_set M5.out.mb (306 + a) (.int .i64 ((nn + 1 : Nat) : Int)) M5.out.stk)
  have HB7 := Lib.hid B7
  have HO8 := Lib.hid (O6.out.trans O8.b)
  clear B7 O8
  go_region
  go_wp2_with fail
  go_end0
  rw [show (nn : Int) + 1 = ((nn + 1 : Nat) : Int) by omega, ← HNN.out]
  exact ⟨rfl, ⟨_, _, HB7.out.same (fun _ _ => rfl) (Nat.le_refl _), stk_same ST7.out (fun _ _ _ => rfl), ⟨M5.out.ok.base, M5.out.ok.data, M5.out.ok.ins, M5.out.ok.ports, M5.out.ok.ages, M5.out.ok.outs, M5.out.ok.puts, M5.out.ok.stack⟩, M5.out.len, M5.out.most⟩, HO8.out.drew⟩
set_option maxRecDepth 100000 in
set_option maxHeartbeats 4000000 in
theorem field_send (u : Mb) (S : MS) (sv : Value) (m : Nat) (dv : Nat → Nat) (a b c : Nat) (w : World) (h : MA w u S sv m dv) (ha : a < 16) (hb : b < 16) (hsn : S.sent a < 1000000) :
    Calls Tryz.prog 82 #[.pointer (some ⟨u.b, 0, none⟩), .agg #[.int .u8 26, .int .u8 (a : Int), .int .u16 (b : Int), .int .u32 (c : Int)]] w fun e w' => e = .returned (.tuple #[]) ∧ (∃ sv' m', MA w' u { S with sent := upd S.sent a (S.sent a + 1) } sv' m' dv) ∧ Only (MM u) w w' := by
  obtain ⟨w1, hw1⟩ : ∃ z, z = w.alloc (.cells #[.int .u8 (26 : Int), .int .u8 (a : Int), .int .u16 (b : Int), .int .u32 (c : Int)] 145) := ⟨_, rfl⟩
  have B1 : Hid (Below w.heap.size w w1) := by rw [hw1]; exact alloc_below _ _
  have KX : Hid (w1.heap[w.heap.size]? = some (.cells #[.int .u8 (26 : Int), .int .u8 (a : Int), .int .u16 (b : Int), .int .u32 (c : Int)] 145 (0, 0))) := by rw [hw1]; exact heap_alloc_new _ _
  have M1 := Lib.hid (h.below B1.out)
  have HLO : Hid (u.lo ≤ w.heap.size) := h.mb.lo
  have HW1 := Lib.hid hw1
  have HNG : Hid (¬ PM u sv w.heap.size) := fun hi => hi.elim (fun e => by have := h.mb.ap.1; have := h.mb.lo; omega) (fun e => by have := (h.stk.lt _ e).2; omega)
  clear hw1 h
  obtain ⟨gb, hgb⟩ : ∃ g, g = w.heap.size := ⟨_, rfl⟩
  rw [← hgb] at KX HLO HNG
  have HGB := Lib.hid hgb
  clear hgb
  have i0 := cell_row (j := 0) KX.out rfl
  have i1 := cell_row (j := 1) KX.out rfl
  have i2 := cell_row (j := 2) KX.out rfl
  have hgl := heap_lt KX.out
  have t1 : decide ((16 : Int) ≤ (a : Int)) = false := decide_eq_false (by omega)
  have t2 : decide ((16 : Int) ≤ (b : Int)) = false := decide_eq_false (by omega)
  have j0 : (0 : Int) ≤ (a : Int) := by omega
  have j1 : (a : Int) < 16 := by omega
  have j2 : (0 : Int) ≤ (b : Int) := by omega
  have j3 : (b : Int) < 16 := by omega
  go_enter Tryz.func82, Tryz.ntmps82
  go_upto_region 1 with fail
  rw [← HW1.out, ← HGB.out]
  clear HW1
  have O1 : Hid (Only (MM u) w w1) := Only.of_below _ B1.out
  go_upto_region 16 with fail
  obtain ⟨nn, hnn⟩ : ∃ nn, nn = S.sent a := ⟨_, rfl⟩
  have n0 : w1.cell? ⟨u.b, 578 + a, none⟩ = some (.int .i64 (nn : Int)) := by rw [hnn, M1.out.mb.row.cell (by omega), machV_sent _ _ _ _ ha]
  have hno : nn < 1000000 := by rw [hnn]; exact hsn
  have HNN := Lib.hid hnn
  clear hnn
  have f0 : w1.frozen? ⟨u.b, 578 + a, none⟩ = false := M1.out.mb.row.frozen _
  obtain ⟨B7, O8⟩ := M1.out.mb.set (578 + a) (.int .i64 ((nn + 1 : Nat) : Int)) (set_sent u S sv m a (nn + 1) ha) rfl rfl
  have ST7 := Lib.hid (stk_set M1.out.mb (578 + a) (.int .i64 ((nn + 1 : Nat) : Int)) M1.out.stk)
  have HB7 := Lib.hid B7
  have HO8 := Lib.hid (O1.out.trans O8.b)
  clear B7 O8
  go_region
  go_wp2_with fail
  go_end0
  rw [show (nn : Int) + 1 = ((nn + 1 : Nat) : Int) by omega, ← HNN.out]
  exact ⟨rfl, ⟨_, _, HB7.out.same (fun _ _ => rfl) (Nat.le_refl _), stk_same ST7.out (fun _ _ _ => rfl), ⟨M1.out.ok.base, M1.out.ok.data, M1.out.ok.ins, M1.out.ok.ports, M1.out.ok.ages, M1.out.ok.outs, M1.out.ok.puts, M1.out.ok.stack⟩, M1.out.len, M1.out.most⟩, HO8.out.drew⟩
end Go.Proofs.YtdlpgoackmgdkaaGreatDoor
