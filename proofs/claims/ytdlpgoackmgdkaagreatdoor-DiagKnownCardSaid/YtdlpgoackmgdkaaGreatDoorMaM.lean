/- The document's machine: a frame. -/
import Derived.Test.YtdlpgoackmgdkaaGreatDoorMaF
import Derived.Test.YtdlpgoackmgdkaaGreatDoorZAsmA
import Derived.Laws.MakeOwn
namespace Go.Proofs.YtdlpgoackmgdkaaGreatDoor
open Go.RowKit Go.Shelf
set_option linter.unusedVariables false
set_option linter.unusedSimpArgs false
/-- A machine between its frames. -/
structure MRest (w : World) (b db dc : Nat) (S : MS) : Prop where
  row : ∃ V m, m ≤ 16 ∧ RowAt w b 99 598 V ∧ ∀ j, j < 598 → j ≠ 594 → j ≠ 597 → V j = machV ⟨b, db, 0, 0, 0, dc, 0⟩ S undef m j
  data : RowAt w db 5 S.dn (fun i => .int .u8 (S.data i : Int))
  ne : b ≠ db
  ok : S.Ok
  cap : S.dn ≤ dc ∧ dc ≤ maxLen
theorem Run.open {code : List Ins} {p : Nat} {S S' : MS} (h : Run code p S S') : ∃ i, code[p]? = some i ∧ (Ex i S .stop S' ∨ (∃ S1, Ex i S .next S1 ∧ S1.stack.length ≤ 16 ∧ Run code (p + 1) S1 S') ∨ ∃ c S1, Ex i S (.jmp c) S1 ∧ p < c ∧ Run code c S1 S') := by
  cases h with
  | stop _ i _ _ hi hx => exact ⟨i, hi, .inl hx⟩
  | next _ i _ S1 _ hi hx hl hr => exact ⟨i, hi, .inr (.inl ⟨S1, hx, hl, hr⟩)⟩
  | jmp _ c i _ S1 _ hi hx hl hr => exact ⟨i, hi, .inr (.inr ⟨c, S1, hx, hl, hr⟩)⟩
/-- How often an instruction was done is turned. -/
theorem MA.setDone {w : World} {u : Mb} {S : MS} {sv : Value} {m : Nat} {dv : Nat → Nat} (h : MA w u S sv m dv) (i x : Nat) : MA (w.setCell ⟨u.nb, i, none⟩ (.int .i64 (x : Int))) u S sv m (upd dv i x) ∧ Only (MM u) w (w.setCell ⟨u.nb, i, none⟩ (.int .i64 (x : Int))) :=
  have ho : Only (MM u) w (w.setCell ⟨u.nb, i, none⟩ (.int .i64 (x : Int))) := (Only.refl _ w).set _ _ (.inr (.inr (.inr (.inl rfl))))
  have oth : ∀ k, k ≠ u.nb → (w.setCell ⟨u.nb, i, none⟩ (.int .i64 (x : Int))).heap[k]? = w.heap[k]? := fun k hk => heap_setCell_other _ _ _ _ hk
  have a := h.mb.ap
  ⟨⟨⟨h.mb.row.same (oth _ a.2.2.2.2.1), h.mb.data.same (oth _ a.2.2.2.2.2), (h.mb.done.set (.int .i64 (x : Int))).congr fun j _ => by
      show (if j = i then _ else _) = Value.int .i64 ((upd dv i x j : Nat) : Int)
      unfold upd; split <;> rfl, a, Nat.le_trans h.mb.lo ho.size, h.mb.cap⟩,
    stk_same h.stk fun g hg _ => oth g (fun e => by have := a.2.2.1; omega), h.ok, h.len, h.most⟩, ho⟩
theorem Sum2.range {op x y z : Nat} (h : Sum2 op x y z) : op = 5 ∨ op = 6 ∨ op = 7 ∨ op = 9 ∨ op = 10 ∨ op = 11 ∨ op = 12 ∨ op = 13 ∨ op = 14 ∨ op = 15 ∨ op = 16 := by
  cases h <;> simp
theorem upd_cnt {f : Nat → Nat} {q : Nat} (h : ∀ a, f a ≤ q) (n a : Nat) : upd f n (f n + 1) a ≤ q + 1 := by
  unfold upd; split; (· exact Nat.succ_le_succ (h n)); (· exact Nat.le_succ_of_le (h a))
theorem make_ints (n : Nat) (hn : n ≤ 16384) (w : World) : (Instr.makeSlice 42 (.int .i64 (n : Int)) (.int .i64 (n : Int))).run Tryz.prog w = .ok (.slice (some ⟨w.heap.size, 0, none⟩) n n) (w.alloc (.cells (madeCells #[.int .i64 0] (n * 1)) 3)) := by
  obtain ⟨i0, hi, hz0, hz1, hz2⟩ := info_parts (show (Tryz.prog.info? 3).map (fun i => (i.zero, i.size, i.bytes)) = some (some (.int .i64 0), 1, 8) by kernel_rfl)
  have := run_makeSlice (P := Tryz.prog) w 42 3 i0 _ Tryz.underlying42 hi hz0 .i64 .i64 n n (by omega) (Int.le_refl _) (by rw [Int.toNat_natCast, hz1]; omega) (by rw [hz2]; omega) (by omega)
  rw [Int.toNat_natCast, hz1] at this
  exact this
theorem z16_get : ∀ k, k < 16 → ([Value.int .i64 0, .int .i64 0, .int .i64 0, .int .i64 0, .int .i64 0, .int .i64 0, .int .i64 0, .int .i64 0, .int .i64 0, .int .i64 0, .int .i64 0, .int .i64 0, .int .i64 0, .int .i64 0, .int .i64 0, .int .i64 0]).getD k undef = .int .i64 ((0 : Nat) : Int) := by
  intro k hk
  match k, hk with
  | 0, _ => rfl
  | 1, _ => rfl
  | 2, _ => rfl
  | 3, _ => rfl
  | 4, _ => rfl
  | 5, _ => rfl
  | 6, _ => rfl
  | 7, _ => rfl
  | 8, _ => rfl
  | 9, _ => rfl
  | 10, _ => rfl
  | 11, _ => rfl
  | 12, _ => rfl
  | 13, _ => rfl
  | 14, _ => rfl
  | 15, _ => rfl
  | n + 16, h => omega
theorem z16_one : ∀ v ∈ [Value.int .i64 0, .int .i64 0, .int .i64 0, .int .i64 0, .int .i64 0, .int .i64 0, .int .i64 0, .int .i64 0, .int .i64 0, .int .i64 0, .int .i64 0, .int .i64 0, .int .i64 0, .int .i64 0, .int .i64 0, .int .i64 0], v.oneCell' = true := fun v hv => by simp at hv; rw [hv]; rfl
theorem RowAt.setCells {w : World} {b n : Nat} {t : TypeId} {V : Nat → Value} (h : RowAt w b t n V) (o : Nat) (vs : List Value) : RowAt (w.setCells b o vs) b t n (fun j => if o ≤ j ∧ j < o + vs.length then vs.getD (j - o) undef else V j) := by
  obtain ⟨cur, h1, h2, h3⟩ := h
  obtain ⟨cur', e1, e2, e3⟩ := setCells_row vs o w b t cur h1
  refine ⟨cur', e1, by omega, fun i hi => ?_⟩
  rw [e3 i (by omega)]
  show _ = some (if o ≤ i ∧ i < o + vs.length then vs.getD (i - o) undef else V i)
  split
  · rfl
  · exact h3 i hi
theorem RowAt.there {w : World} {b n : Nat} {t : TypeId} {V : Nat → Value} (h : RowAt w b t n V) (o k : Nat) (hk : o + k ≤ n) : w.there b o k := fun j hj => ⟨by rw [h.cell (show o + j < n by omega)]; rfl, h.frozen _⟩
theorem begin_row {b db dc nb n m : Nat} {S : MS} {V : Nat → Value} (hV : ∀ j, j < 598 → j ≠ 594 → j ≠ 597 → V j = machV ⟨b, db, 0, 0, 0, dc, 0⟩ S undef m j) : ∀ j, j < 598 →
    (if 578 ≤ j ∧ j < 578 + ([Value.int .i64 0, .int .i64 0, .int .i64 0, .int .i64 0, .int .i64 0, .int .i64 0, .int .i64 0, .int .i64 0, .int .i64 0, .int .i64 0, .int .i64 0, .int .i64 0, .int .i64 0, .int .i64 0, .int .i64 0, .int .i64 0]).length then ([Value.int .i64 0, .int .i64 0, .int .i64 0, .int .i64 0, .int .i64 0, .int .i64 0, .int .i64 0, .int .i64 0, .int .i64 0, .int .i64 0, .int .i64 0, .int .i64 0, .int .i64 0, .int .i64 0, .int .i64 0, .int .i64 0]).getD (j - 578) undef else if 306 ≤ j ∧ j < 306 + ([Value.int .i64 0, .int .i64 0, .int .i64 0, .int .i64 0, .int .i64 0, .int .i64 0, .int .i64 0, .int .i64 0, .int .i64 0, .int .i64 0, .int .i64 0, .int .i64 0, .int .i64 0, .int .i64 0, .int .i64 0, .int .i64 0]).length then ([Value.int .i64 0, .int .i64 0, .int .i64 0, .int .i64 0, .int .i64 0, .int .i64 0, .int .i64 0, .int .i64 0, .int .i64 0, .int .i64 0, .int .i64 0, .int .i64 0, .int .i64 0, .int .i64 0, .int .i64 0, .int .i64 0]).getD (j - 306) undef else if j = 594 then .slice (some ⟨nb, 0, none⟩) n n else if j = 597 then .slice none 0 0 else V j) = machV ⟨b, db, nb, nb + 1, n, dc, n⟩ S.begin (.slice none 0 0) m j := by
  intro j hj
  have hl : ([Value.int .i64 0, .int .i64 0, .int .i64 0, .int .i64 0, .int .i64 0, .int .i64 0, .int .i64 0, .int .i64 0, .int .i64 0, .int .i64 0, .int .i64 0, .int .i64 0, .int .i64 0, .int .i64 0, .int .i64 0, .int .i64 0]).length = 16 := rfl
  rw [hl]
  by_cases h1 : 578 ≤ j ∧ j < 578 + 16
  · rw [if_pos h1, z16_get _ (by omega)]
    unfold machV; iterate 8 rw [if_neg (by omega)]
    rw [if_pos (by omega)]; rfl
  rw [if_neg h1]
  by_cases h2 : 306 ≤ j ∧ j < 306 + 16
  · rw [if_pos h2, z16_get _ (by omega)]
    unfold machV; iterate 6 rw [if_neg (by omega)]
    rw [if_pos (by omega)]; rfl
  rw [if_neg h2]
  by_cases h3 : j = 594
  · subst h3; rfl
  rw [if_neg h3]
  by_cases h4 : j = 597
  · subst h4; rfl
  rw [if_neg h4, hV j hj h3 h4]
  unfold machV
  dsimp only [MS.begin]
  repeat (first | (refine ite_congr rfl (fun _ => by with_reducible rfl) fun _ => ?_) | (refine ite_congr rfl (fun _ => ?_) fun _ => ?_; · exfalso; omega))
  exfalso; omega
set_option maxRecDepth 100000 in
set_option maxHeartbeats 4000000 in
theorem frame_any (code : List Ins) (a : Option Addr) (c b db dc : Nat) (S S' : MS) (w : World) (hr : MRest w b db dc S) (hI : InsAt w a code) (hA : ∀ g o, a = some ⟨g, o, none⟩ → g ≠ b ∧ g ≠ db) (h0 : 0 < code.length) (hl : code.length ≤ 16384) (hok : ∀ i, i < code.length → (code.getD i noIns).ok) (hrun : Run code 0 S.begin S') :
    Calls Tryz.prog 51 #[.pointer (some ⟨b, 0, none⟩), .slice a code.length c, .int .i64 16384] w fun e w' => e = .returned (.bool true) ∧
      (∃ u sv m dv, MA w' u S' sv m dv ∧ u.b = b ∧ u.db = db ∧ u.dc = dc ∧ u.len = code.length ∧ ∀ j, dv j ≤ 1) ∧ Only (fun i => i = b ∨ i = db) w w' := by
  obtain ⟨V, m, hm, hrow, hV⟩ := hr.row
  have f597 := hrow.frozen 597
  have c597 := hrow.cell (i := 597) (by omega)
  obtain ⟨n, hn⟩ : ∃ n, n = code.length := ⟨_, rfl⟩
  rw [← hn] at hl h0
  have hmk := make_ints n hl
  have HN := Lib.hid hn
  have HR := Lib.hid hr; have HI := Lib.hid hI; have HAD := Lib.hid hA; have HOK := Lib.hid hok; have HRUN := Lib.hid hrun
  have HV := Lib.hid hV; have HROW := Lib.hid hrow
  clear hr hI hA hok hrun hV hrow
  rw [← hn]
  clear hn
  go_enter Tryz.func51, Tryz.ntmps51
  go_upto_region 2 with fail
  have R1 : RowAt (w.setCell ⟨b, 597, none⟩ (.slice none 0 0)) b 99 598 (fun j => if j = 597 then .slice none 0 0 else V j) := HROW.out.set _
  have O1 : Only (fun i => i = b) w (w.setCell ⟨b, 597, none⟩ (.slice none 0 0)) := (Only.refl _ w).set _ _ (.inr rfl)
  have hs1 : Hid ((w.setCell ⟨b, 597, none⟩ (.slice none 0 0)).heap.size = w.heap.size) := by show _ = _; simp [World.setCell]
  generalize w.setCell ⟨b, 597, none⟩ (.slice none 0 0) = w1 at *
  clear f597 c597
  have hbl := R1.lt
  have hmk1 := hmk w1
  obtain ⟨w2, hw2⟩ : ∃ x, x = w1.alloc (.cells (madeCells #[.int .i64 0] (n * 1)) 3) := ⟨_, rfl⟩
  have R2 : RowAt w2 b 99 598 (fun j => if j = 597 then .slice none 0 0 else V j) := by rw [hw2]; exact R1.same (heap_alloc_old _ _ hbl)
  have O2 : Only (fun i => i = b) w w2 := by rw [hw2]; exact O1.alloc _
  have D2 : RowAt w2 w1.heap.size 3 n (fun i => .int .i64 ((0 : Nat) : Int)) := by rw [hw2]; exact ⟨_, heap_alloc_new _ _, by rw [size_madeCells]; omega, fun i hi => by simp [madeCells, hi, Nat.mod_one]⟩
  have hs2 : w2.heap.size = w1.heap.size + 1 := by rw [hw2]; simp
  rw [← hw2] at hmk1
  obtain ⟨nb, hnb⟩ : ∃ x, x = w1.heap.size := ⟨_, rfl⟩
  rw [← hnb] at hmk1 D2 hs2 hbl
  have HNB : Hid (nb = w.heap.size) := by show _ = _; rw [hnb, hs1.out]
  have HS2 := Lib.hid hs2
  have f594 := R2.frozen 594
  have c594 := R2.cell (i := 594) (by omega)
  have HR2 := Lib.hid R2; have HO2 := Lib.hid O2; have HD2 := Lib.hid D2
  clear R1 O1 R2 O2 D2 hmk hw2 hs2 hs1 hnb
  go_upto_region 3 with fail
  have R3 := HR2.out.set (i := 594) (.slice (some ⟨nb, 0, none⟩) n n)
  have O3 : Only (fun i => i = b) w _ := HO2.out.set (g := b) 594 (.slice (some ⟨nb, 0, none⟩) n n) (.inr rfl)
  have D3 := HD2.out.other (b' := b) (o := 594) (by omega) (.slice (some ⟨nb, 0, none⟩) n n)
  have hs3 : Hid ((w2.setCell ⟨b, 594, none⟩ (.slice (some ⟨nb, 0, none⟩) n n)).heap.size = nb + 1) := by show _ = _; rw [← HS2.out]; simp [World.setCell]
  generalize w2.setCell ⟨b, 594, none⟩ (.slice (some ⟨nb, 0, none⟩) n n) = w3 at *
  clear f594 c594 HR2 HO2 HD2 HS2 hmk1
  obtain ⟨arr, harr⟩ : ∃ x, x = ([Value.int .i64 0, .int .i64 0, .int .i64 0, .int .i64 0, .int .i64 0, .int .i64 0, .int .i64 0, .int .i64 0, .int .i64 0, .int .i64 0, .int .i64 0, .int .i64 0, .int .i64 0, .int .i64 0, .int .i64 0, .int .i64 0]).toArray := ⟨_, rfl⟩
  have hsz : arr.size = 16 := by rw [harr]; rfl
  have HARR := Lib.hid harr
  have hl3 : arr.toList = [Value.int .i64 0, .int .i64 0, .int .i64 0, .int .i64 0, .int .i64 0, .int .i64 0, .int .i64 0, .int .i64 0, .int .i64 0, .int .i64 0, .int .i64 0, .int .i64 0, .int .i64 0, .int .i64 0, .int .i64 0, .int .i64 0] := by rw [harr]
  have hst3 : (storeCells ⟨b, 306, none⟩ arr.toList).run Tryz.prog w3 = .ok () (w3.setCells b 306 [Value.int .i64 0, .int .i64 0, .int .i64 0, .int .i64 0, .int .i64 0, .int .i64 0, .int .i64 0, .int .i64 0, .int .i64 0, .int .i64 0, .int .i64 0, .int .i64 0, .int .i64 0, .int .i64 0, .int .i64 0, .int .i64 0]) := by rw [hl3]; exact store_midL (P := Tryz.prog) w3 b 306 [Value.int .i64 0, .int .i64 0, .int .i64 0, .int .i64 0, .int .i64 0, .int .i64 0, .int .i64 0, .int .i64 0, .int .i64 0, .int .i64 0, .int .i64 0, .int .i64 0, .int .i64 0, .int .i64 0, .int .i64 0, .int .i64 0] (R3.there _ _ (by show 306 + 16 ≤ 598; omega)) z16_one
  clear harr hl3
  have R4 := Lib.hid (R3.setCells 306 [Value.int .i64 0, .int .i64 0, .int .i64 0, .int .i64 0, .int .i64 0, .int .i64 0, .int .i64 0, .int .i64 0, .int .i64 0, .int .i64 0, .int .i64 0, .int .i64 0, .int .i64 0, .int .i64 0, .int .i64 0, .int .i64 0])
  have O4 : Hid (Only (fun i => i = b) w (w3.setCells b 306 [Value.int .i64 0, .int .i64 0, .int .i64 0, .int .i64 0, .int .i64 0, .int .i64 0, .int .i64 0, .int .i64 0, .int .i64 0, .int .i64 0, .int .i64 0, .int .i64 0, .int .i64 0, .int .i64 0, .int .i64 0, .int .i64 0])) := O3.trans ⟨(setCells_os _ _ _ _).1, (setCells_os _ _ _ _).2.1, (setCells_os _ _ _ _).2.2, by rw [setCells_size]; omega, fun i hi hm => setCells_other _ _ _ _ _ (fun e => hm e)⟩
  have D4 : Hid (RowAt (w3.setCells b 306 [Value.int .i64 0, .int .i64 0, .int .i64 0, .int .i64 0, .int .i64 0, .int .i64 0, .int .i64 0, .int .i64 0, .int .i64 0, .int .i64 0, .int .i64 0, .int .i64 0, .int .i64 0, .int .i64 0, .int .i64 0, .int .i64 0]) nb 3 n (fun i => .int .i64 ((0 : Nat) : Int))) := D3.same (setCells_other _ _ _ _ _ (by omega))
  have hs4 : Hid ((w3.setCells b 306 [Value.int .i64 0, .int .i64 0, .int .i64 0, .int .i64 0, .int .i64 0, .int .i64 0, .int .i64 0, .int .i64 0, .int .i64 0, .int .i64 0, .int .i64 0, .int .i64 0, .int .i64 0, .int .i64 0, .int .i64 0, .int .i64 0]).heap.size = nb + 1) := by show _ = _; rw [setCells_size]; exact hs3.out
  have HR3 := Lib.hid R3
  clear R3 O3 D3 hs3
  obtain ⟨w4, hw4⟩ : ∃ x, x = w3.setCells b 306 [Value.int .i64 0, .int .i64 0, .int .i64 0, .int .i64 0, .int .i64 0, .int .i64 0, .int .i64 0, .int .i64 0, .int .i64 0, .int .i64 0, .int .i64 0, .int .i64 0, .int .i64 0, .int .i64 0, .int .i64 0, .int .i64 0] := ⟨_, rfl⟩
  rw [← hw4] at hst3 R4 O4 D4 hs4
  clear hw4
  iterate 4 go_step
  refine wpList_build_eq rfl 97 _ rfl arr (by rw [HARR.out]; kernel_rfl) ?_
  go_upto_region 4 with fail
  clear hst3
  obtain ⟨arr2, harr2⟩ : ∃ x, x = ([Value.int .i64 0, .int .i64 0, .int .i64 0, .int .i64 0, .int .i64 0, .int .i64 0, .int .i64 0, .int .i64 0, .int .i64 0, .int .i64 0, .int .i64 0, .int .i64 0, .int .i64 0, .int .i64 0, .int .i64 0, .int .i64 0]).toArray := ⟨_, rfl⟩
  have hsz2 : arr2.size = 16 := by rw [harr2]; rfl
  have HARR2 := Lib.hid harr2
  have hl4 : arr2.toList = [Value.int .i64 0, .int .i64 0, .int .i64 0, .int .i64 0, .int .i64 0, .int .i64 0, .int .i64 0, .int .i64 0, .int .i64 0, .int .i64 0, .int .i64 0, .int .i64 0, .int .i64 0, .int .i64 0, .int .i64 0, .int .i64 0] := by rw [harr2]
  have hst4 : (storeCells ⟨b, 578, none⟩ arr2.toList).run Tryz.prog w4 = .ok () (w4.setCells b 578 [Value.int .i64 0, .int .i64 0, .int .i64 0, .int .i64 0, .int .i64 0, .int .i64 0, .int .i64 0, .int .i64 0, .int .i64 0, .int .i64 0, .int .i64 0, .int .i64 0, .int .i64 0, .int .i64 0, .int .i64 0, .int .i64 0]) := by rw [hl4]; exact store_midL (P := Tryz.prog) w4 b 578 [Value.int .i64 0, .int .i64 0, .int .i64 0, .int .i64 0, .int .i64 0, .int .i64 0, .int .i64 0, .int .i64 0, .int .i64 0, .int .i64 0, .int .i64 0, .int .i64 0, .int .i64 0, .int .i64 0, .int .i64 0, .int .i64 0] (R4.out.there _ _ (by show 578 + 16 ≤ 598; omega)) z16_one
  have R5 := Lib.hid (R4.out.setCells 578 [Value.int .i64 0, .int .i64 0, .int .i64 0, .int .i64 0, .int .i64 0, .int .i64 0, .int .i64 0, .int .i64 0, .int .i64 0, .int .i64 0, .int .i64 0, .int .i64 0, .int .i64 0, .int .i64 0, .int .i64 0, .int .i64 0])
  have O5 : Hid (Only (fun i => i = b) w (w4.setCells b 578 [Value.int .i64 0, .int .i64 0, .int .i64 0, .int .i64 0, .int .i64 0, .int .i64 0, .int .i64 0, .int .i64 0, .int .i64 0, .int .i64 0, .int .i64 0, .int .i64 0, .int .i64 0, .int .i64 0, .int .i64 0, .int .i64 0])) := O4.out.trans ⟨(setCells_os _ _ _ _).1, (setCells_os _ _ _ _).2.1, (setCells_os _ _ _ _).2.2, by rw [setCells_size]; omega, fun i hi hm => setCells_other _ _ _ _ _ (fun e => hm e)⟩
  have D5 : Hid (RowAt (w4.setCells b 578 [Value.int .i64 0, .int .i64 0, .int .i64 0, .int .i64 0, .int .i64 0, .int .i64 0, .int .i64 0, .int .i64 0, .int .i64 0, .int .i64 0, .int .i64 0, .int .i64 0, .int .i64 0, .int .i64 0, .int .i64 0, .int .i64 0]) nb 3 n (fun i => .int .i64 ((0 : Nat) : Int))) := D4.out.same (setCells_other _ _ _ _ _ (by omega))
  have hs5 : Hid ((w4.setCells b 578 [Value.int .i64 0, .int .i64 0, .int .i64 0, .int .i64 0, .int .i64 0, .int .i64 0, .int .i64 0, .int .i64 0, .int .i64 0, .int .i64 0, .int .i64 0, .int .i64 0, .int .i64 0, .int .i64 0, .int .i64 0, .int .i64 0]).heap.size = nb + 1) := by show _ = _; rw [setCells_size]; exact hs4.out
  clear harr2 hl4 R4 O4 D4 hs4
  obtain ⟨w5, hw5⟩ : ∃ x, x = w4.setCells b 578 [Value.int .i64 0, .int .i64 0, .int .i64 0, .int .i64 0, .int .i64 0, .int .i64 0, .int .i64 0, .int .i64 0, .int .i64 0, .int .i64 0, .int .i64 0, .int .i64 0, .int .i64 0, .int .i64 0, .int .i64 0, .int .i64 0] := ⟨_, rfl⟩
  rw [← hw5] at hst4 R5 O5 D5 hs5
  clear hw5
  iterate 4 go_step
  refine wpList_build_eq rfl 97 _ rfl arr2 (by rw [HARR2.out]; kernel_rfl) ?_
  go_wp2_with fail
  clear hst4 hsz hsz2 HARR HARR2
  obtain ⟨u, hu⟩ : ∃ u, u = (⟨b, db, nb, nb + 1, n, dc, n⟩ : Mb) := ⟨_, rfl⟩
  have hdb : db < w.heap.size := HR.out.data.lt
  have hbw : b < w.heap.size := HROW.out.lt
  have M5 : Hid (MA w5 u S.begin (.slice none 0 0) m (fun _ => 0)) := by
    rw [hu]
    refine ⟨⟨R5.out.congr (begin_row HV.out), ?_, D5.out, ⟨by show b < nb + 1; rw [HNB.out]; omega, by show db < nb + 1; rw [HNB.out]; omega, Nat.lt_succ_self _, HR.out.ne, by show b ≠ nb; rw [HNB.out]; omega, by show db ≠ nb; rw [HNB.out]; omega⟩, Nat.le_of_eq hs5.out.symm, HR.out.cap.1, HR.out.cap.2, Nat.le_refl _, by show n ≤ maxLen; unfold maxLen; omega⟩, World.ownsRow_nil _ _ _ _, HR.out.ok.begin, Nat.zero_le _, hm⟩
    exact HR.out.data.same (O5.out.block _ hdb (fun e => HR.out.ne e.symm))
  have hub : u.b = b := by rw [hu]
  have HU : Hid (u.b = b ∧ u.db = db ∧ u.dc = dc ∧ u.len = n ∧ u.nb = nb ∧ u.lo = nb + 1 ∧ u.nc = n) := by rw [hu]; exact ⟨rfl, rfl, rfl, rfl, rfl, rfl, rfl⟩
  have OM5 : Hid (Only (MM u) w w5) := O5.out.mono fun i _ hi => .inl (by rw [hub]; exact hi)
  clear R5 O5 D5 hs5 HROW HV HR hu hdb hm
  subst hub
  have HGI := Lib.hid (HI.out.at (by have := HN.out; omega))
  obtain ⟨g, off, rfl, hgw, hcc⟩ := HGI.out
  have HCC := Lib.hid hcc
  have HNG : Hid (¬ MM u g) := fun hi => by
    have h1 := HAD.out g off rfl
    have h2 := HU.out
    have h3 := HNB.out
    rcases hi with e | e | e | e
    · exact h1.1 e
    · exact h1.2 (by rw [e, h2.2.1])
    · rw [h2.2.2.2.2.1] at e; omega
    · rw [h2.2.2.2.2.2.1] at e; omega
  clear hcc HGI HI HAD
  have HFIN : Hid (∀ w', Only (MM u) w w' → Only (fun i => i = u.b ∨ i = db) w w') := fun w' ho => ho.mono fun i hi hM => by
    have h2 := HU.out
    have h3 := HNB.out
    rcases hM with e | e | e | e
    · exact .inl e
    · exact .inr (by rw [e, h2.2.1])
    · rw [h2.2.2.2.2.1] at e; omega
    · rw [h2.2.2.2.2.2.1] at e; omega
  have HD0 : Hid (∀ j : Nat, (fun _ : Nat => 0) j ≤ 1) := fun _ => by show 0 ≤ 1; omega
  have HZ0 : Hid (∀ j : Nat, 0 ≤ j → (fun _ : Nat => 0) j = 0) := fun _ _ => rfl
  generalize (fun _ : Nat => 0) = dv0 at *
  go_loopw [7, 8] (fun pcv kv wr => ∃ (p q : Nat) (S1 : MS) (sv : Value) (m1 : Nat) (dv : Nat → Nat), pcv = .int .i64 (p : Int) ∧ kv = .int .i64 (q : Int) ∧ q ≤ p ∧ Hid (Run code p S1 S') ∧ Hid (MA wr u S1 sv m1 dv) ∧ Hid (∀ j, dv j ≤ 1) ∧ Hid (∀ j, p ≤ j → dv j = 0) ∧ Hid ((∀ a, S1.out a ≤ q) ∧ ∀ a, S1.sent a ≤ q) ∧ Hid (Only (MM u) w wr)) (fun _ kv _ => 16384 - (intOf kv).toNat)
  case atStart => exact ⟨0, 0, S.begin, _, m, dv0, rfl, rfl, Nat.le_refl _, HRUN, M5, HD0, HZ0, ⟨fun _ => Nat.le_refl _, fun _ => Nat.le_refl _⟩, OM5⟩
  case round =>
    clear HRUN M5 HD0 HZ0 OM5
    obtain ⟨p, q, S1, sv, m1, dv, rfl, rfl, hqp, RUN, M1, HD, HZ, HCN, OM⟩ := hrel
    obtain ⟨i, hi, hcase⟩ := RUN.out.open
    have hpn : p < n := by rw [HN.out]; exact (List.getElem?_eq_some_iff.1 hi).1
    have hgd : code.getD p noIns = i := by rw [List.getD_eq_getElem?_getD, hi]; rfl
    have hio := HOK.out p (by rw [← HN.out]; exact hpn)
    rw [hgd] at hio
    have hcc := HCC.out p (by rw [← HN.out]; exact hpn)
    have hgl : g < wr.heap.size := Nat.lt_of_lt_of_le hgw OM.out.size
    obtain ⟨op, ia, ib, ic⟩ := i
    have a0 : wr.cell? ⟨g, off + p * 4, none⟩ = some (.int .u8 (op : Int)) := by have := only_cell OM.out (hcc 0 (by omega)) hgw HNG.out; unfold insV at this; rw [hgd] at this; exact this
    have a1 : wr.cell? ⟨g, off + p * 4 + 1, none⟩ = some (.int .u8 (ia : Int)) := by rw [only_cell OM.out (hcc 1 (by omega)) hgw HNG.out]; unfold insV; rw [hgd]; rfl
    have a2 : wr.cell? ⟨g, off + p * 4 + 2, none⟩ = some (.int .u16 (ib : Int)) := by rw [only_cell OM.out (hcc 2 (by omega)) hgw HNG.out]; unfold insV; rw [hgd]; rfl
    have a3 : wr.cell? ⟨g, off + p * 4 + 3, none⟩ = some (.int .u32 (ic : Int)) := by rw [only_cell OM.out (hcc 3 (by omega)) hgw HNG.out]; unfold insV; rw [hgd]; rfl
    have HIO := Lib.hid hio
    have HCASE := Lib.hid hcase
    clear hi hcase hgd hio hcc RUN
    have tq : decide ((q : Int) < 16384) = true := decide_eq_true (by omega)
    have tp : decide ((n : Int) ≤ (p : Int)) = false := decide_eq_false (by omega)
    have ip0 : (0 : Int) ≤ (p : Int) := by omega
    have ip1 : (p : Int) < (n : Int) := by omega
    have c596 : wr.cell? ⟨u.b, 596, none⟩ = some (.bool false) := M1.out.mb.row.cell (i := 596) (by omega)
    go_upto_region 13 with fail
    clear a0 a1 a2 a3 c596
    have KI : Hid ((wr.alloc (.cells #[.int .u8 (op : Int), .int .u8 (ia : Int), .int .u16 (ib : Int), .int .u32 (ic : Int)] 145)).heap[wr.heap.size]? = some (.cells #[.int .u8 (op : Int), .int .u8 (ia : Int), .int .u16 (ib : Int), .int .u32 (ic : Int)] 145 (0, 0))) := heap_alloc_new _ _
    have M2 := Lib.hid (M1.out.below (alloc_below wr (.cells #[.int .u8 (op : Int), .int .u8 (ia : Int), .int .u16 (ib : Int), .int .u32 (ic : Int)] 145)))
    have OM2 := Lib.hid (OM.out.trans (Only.of_below (MM u) (alloc_below wr (.cells #[.int .u8 (op : Int), .int .u8 (ia : Int), .int .u16 (ib : Int), .int .u32 (ic : Int)] 145))))
    have HGL : Hid (u.lo ≤ wr.heap.size) := M1.out.mb.lo
    have HOWN : Hid (∀ k, sv.ownBlock = some k → k < wr.heap.size) := fun k hk => (M1.out.stk.lt k hk).2
    generalize wr.alloc (.cells #[.int .u8 (op : Int), .int .u8 (ia : Int), .int .u16 (ib : Int), .int .u32 (ic : Int)] 145) = w6 at *
    generalize wr.heap.size = gi at *
    clear M1 OM hgl
    have c594 : w6.cell? ⟨u.b, 594, none⟩ = some (.slice (some ⟨nb, 0, none⟩) n n) := by
      have := M2.out.mb.row.cell (i := 594) (by omega)
      have h2 := HU.out
      have e : machV u S1 sv m1 594 = .slice (some ⟨u.nb, 0, none⟩) u.len u.nc := rfl
      rw [e, h2.2.2.2.2.1, h2.2.2.2.1, h2.2.2.2.2.2.2] at this
      exact this
    have d0 : w6.cell? ⟨nb, p, none⟩ = some (.int .i64 0) := by
      have h2 := HU.out
      have := M2.out.mb.done.cell (i := p) (by rw [h2.2.2.2.1]; exact hpn)
      rw [h2.2.2.2.2.1, HZ.out p (Nat.le_refl _)] at this
      exact this
    have fd : w6.frozen? ⟨nb, p, none⟩ = false := by have := M2.out.mb.done.frozen p; rw [HU.out.2.2.2.2.1] at this; exact this
    obtain ⟨M3, O3⟩ := M2.out.setDone p 1
    have KI3 : Hid ((w6.setCell ⟨nb, p, none⟩ (.int .i64 1)).heap[gi]? = some (.cells #[.int .u8 (op : Int), .int .u8 (ia : Int), .int .u16 (ib : Int), .int .u32 (ic : Int)] 145 (0, 0))) := (heap_setCell_other _ _ _ _ (fun e => by have e : gi = nb := e; have := HGL.out; rw [HU.out.2.2.2.2.2.1] at this; omega)).trans KI.out
    rw [HU.out.2.2.2.2.1] at M3 O3
    have HM3 := Lib.hid M3; have HO3 := Lib.hid (OM2.out.trans O3)
    have HD3 : Hid (∀ j, upd dv p 1 j ≤ 1) := fun j => by unfold upd; split; (· exact Nat.le_refl _); (· exact HD.out j)
    have HZ3 : Hid (∀ j, p < j → upd dv p 1 j = 0) := fun j hj => by rw [upd_other (by omega)]; exact HZ.out j (by omega)
    clear M3 O3 M2 OM2 HD HZ KI
    go_upto_region 15 with fail
    generalize w6.setCell ⟨nb, p, none⟩ (.int .i64 1) = w7 at *
    generalize upd dv p 1 = dv7 at *
    clear c594 d0 fd
    have x0 := cell_row (j := 0) KI3.out rfl
    have x1 := cell_row (j := 1) KI3.out rfl
    have x2 := cell_row (j := 2) KI3.out rfl
    have x3 := cell_row (j := 3) KI3.out rfl
    have hgi := heap_lt KI3.out
    have HGB : Hid (¬ gi = u.b) := fun e => by have h1 := HGL.out; have h2 := HU.out; have h3 := HM3.out.mb.ap.1; omega
    have y596 : w7.cell? ⟨u.b, 596, none⟩ = some (.bool false) := HM3.out.mb.row.cell (i := 596) (by omega)
    rcases HCASE.out with hx | ⟨S2, hx, hl2, hr⟩ | ⟨cc, S2, hx, hpc, hr⟩
    · cases hx with
      | yield =>
        as_aux_lemma =>
          go_wp2_with fail
          go_ret
          exact ⟨rfl, ⟨u, sv, m1, dv7, HM3.out, rfl, HU.out.2.1, HU.out.2.2.1, HU.out.2.2.2.1, HD3.out⟩, HFIN.out _ HO3.out⟩
    · have HR2 := Lib.hid hr
      clear hr HCASE
      cases hx with
      | push _ _ _ =>
        as_aux_lemma =>
          have hlt : S1.stack.length < 16 := by have := hl2; simp only [List.length_cons] at this; omega
          go_wp2_with fail
          refine (push_any u S1 sv m1 dv7 ic w7 HM3.out HIO.out.c hlt).mono ?_
          rintro e w8 ⟨rfl, ⟨sv8, m8, h8⟩, o8⟩
          have M8 := Lib.hid h8; have O8 := Lib.hid (HO3.out.trans (HM3.out.pm o8))
          clear HM3 HO3 x0 x1 x2 x3 y596 KI3
          go_wp2_with fail
          refine ⟨⟨p + 1, q + 1, _, sv8, m8, dv7, by go_num, by go_num, by omega, HR2, M8, HD3, fun j hj => HZ3.out j (by omega), ⟨fun a => by first | exact Nat.le_succ_of_le (HCN.out.1 a) | exact upd_cnt HCN.out.1 _ a, fun a => by first | exact Nat.le_succ_of_le (HCN.out.2 a) | exact upd_cnt HCN.out.2 _ a⟩, O8⟩, ?_⟩
          simp [intOf]; omega
      | drop _ _ _ x r _ e =>
        as_aux_lemma =>
          go_wp2_with fail
          refine (pop_any u S1 sv m1 dv7 x r w7 HM3.out e).mono ?_
          rintro e' w8 ⟨rfl, ⟨sv8, h8, -⟩, o8⟩
          have M8 := Lib.hid h8; have O8 := Lib.hid (HO3.out.trans o8.b)
          clear HM3 HO3 x0 x1 x2 x3 y596 KI3
          go_wp2_with fail
          refine ⟨⟨p + 1, q + 1, _, sv8, m1, dv7, by go_num, by go_num, by omega, HR2, M8, HD3, fun j hj => HZ3.out j (by omega), ⟨fun a => by first | exact Nat.le_succ_of_le (HCN.out.1 a) | exact upd_cnt HCN.out.1 _ a, fun a => by first | exact Nat.le_succ_of_le (HCN.out.2 a) | exact upd_cnt HCN.out.2 _ a⟩, O8⟩, ?_⟩
          simp [intOf]; omega
      | sum _ _ _ _ x y z r _ e hz =>
        have hxw : x < 4294967296 := HM3.out.ok.stack x (by rw [e]; simp)
        have hyw : y < 4294967296 := HM3.out.ok.stack y (by rw [e]; simp)
        have hlr : r.length < 16 := by have := hl2; simp only [List.length_cons] at this; omega
        have HE := Lib.hid e
        have HZZ := Lib.hid hz
        clear e
        have hop := hz.range
        clear hz
        rcases hop with rfl | rfl | rfl | rfl | rfl | rfl | rfl | rfl | rfl | rfl | rfl
        · as_aux_lemma =>
            go_wp2_with fail
            refine (pop_any u S1 sv m1 dv7 y (x :: r) w7 HM3.out HE.out).mono ?_
            rintro e' w8 ⟨rfl, ⟨sv8, h8, -⟩, o8⟩
            have M8 := Lib.hid h8; have O8 := Lib.hid (HO3.out.trans o8.b)
            have z0 := only_cell o8 x0 hgi HGB.out
            have hg8 : gi < w8.heap.size := World.block_lt_of_cell? _ _ z0
            clear h8 o8 x0 x1 x2 x3 HM3 HO3 KI3 y596
            go_wp2_with fail
            refine (pop_any u { S1 with stack := x :: r } sv8 m1 dv7 x r w8 M8.out rfl).mono ?_
            rintro e' w9 ⟨rfl, ⟨sv9, h9, -⟩, o9⟩
            have M9 := Lib.hid h9; have O9 := Lib.hid (O8.out.trans o9.b)
            have y0 := only_cell o9 z0 hg8 HGB.out
            clear h9 o9 z0 M8 O8 hg8
            go_wp2_with fail
            refine (sum_any _ _ x y z w9 hxw hyw HZZ.out).mono ?_
            rintro e' w10 ⟨rfl, rfl⟩
            go_wp2_with fail
            refine (push_any u { S1 with stack := r } sv9 m1 dv7 z w10 M9.out (HZZ.out.lt hxw hyw) hlr).mono ?_
            rintro e w11 ⟨rfl, ⟨sv11, m11, h11⟩, o11⟩
            have M11 := Lib.hid h11; have O11 := Lib.hid (O9.out.trans (M9.out.pm o11))
            clear y0 M9 O9
            go_wp2_with fail
            refine ⟨⟨p + 1, q + 1, _, sv11, m11, dv7, by go_num, by go_num, by omega, HR2, M11, HD3, fun j hj => HZ3.out j (by omega), ⟨fun a => by first | exact Nat.le_succ_of_le (HCN.out.1 a) | exact upd_cnt HCN.out.1 _ a, fun a => by first | exact Nat.le_succ_of_le (HCN.out.2 a) | exact upd_cnt HCN.out.2 _ a⟩, O11⟩, ?_⟩
            simp [intOf]; omega
        · as_aux_lemma =>
            go_wp2_with fail
            refine (pop_any u S1 sv m1 dv7 y (x :: r) w7 HM3.out HE.out).mono ?_
            rintro e' w8 ⟨rfl, ⟨sv8, h8, -⟩, o8⟩
            have M8 := Lib.hid h8; have O8 := Lib.hid (HO3.out.trans o8.b)
            have z0 := only_cell o8 x0 hgi HGB.out
            have hg8 : gi < w8.heap.size := World.block_lt_of_cell? _ _ z0
            clear h8 o8 x0 x1 x2 x3 HM3 HO3 KI3 y596
            go_wp2_with fail
            refine (pop_any u { S1 with stack := x :: r } sv8 m1 dv7 x r w8 M8.out rfl).mono ?_
            rintro e' w9 ⟨rfl, ⟨sv9, h9, -⟩, o9⟩
            have M9 := Lib.hid h9; have O9 := Lib.hid (O8.out.trans o9.b)
            have y0 := only_cell o9 z0 hg8 HGB.out
            clear h9 o9 z0 M8 O8 hg8
            go_wp2_with fail
            refine (sum_any _ _ x y z w9 hxw hyw HZZ.out).mono ?_
            rintro e' w10 ⟨rfl, rfl⟩
            go_wp2_with fail
            refine (push_any u { S1 with stack := r } sv9 m1 dv7 z w10 M9.out (HZZ.out.lt hxw hyw) hlr).mono ?_
            rintro e w11 ⟨rfl, ⟨sv11, m11, h11⟩, o11⟩
            have M11 := Lib.hid h11; have O11 := Lib.hid (O9.out.trans (M9.out.pm o11))
            clear y0 M9 O9
            go_wp2_with fail
            refine ⟨⟨p + 1, q + 1, _, sv11, m11, dv7, by go_num, by go_num, by omega, HR2, M11, HD3, fun j hj => HZ3.out j (by omega), ⟨fun a => by first | exact Nat.le_succ_of_le (HCN.out.1 a) | exact upd_cnt HCN.out.1 _ a, fun a => by first | exact Nat.le_succ_of_le (HCN.out.2 a) | exact upd_cnt HCN.out.2 _ a⟩, O11⟩, ?_⟩
            simp [intOf]; omega
        · as_aux_lemma =>
            go_wp2_with fail
            refine (pop_any u S1 sv m1 dv7 y (x :: r) w7 HM3.out HE.out).mono ?_
            rintro e' w8 ⟨rfl, ⟨sv8, h8, -⟩, o8⟩
            have M8 := Lib.hid h8; have O8 := Lib.hid (HO3.out.trans o8.b)
            have z0 := only_cell o8 x0 hgi HGB.out
            have hg8 : gi < w8.heap.size := World.block_lt_of_cell? _ _ z0
            clear h8 o8 x0 x1 x2 x3 HM3 HO3 KI3 y596
            go_wp2_with fail
            refine (pop_any u { S1 with stack := x :: r } sv8 m1 dv7 x r w8 M8.out rfl).mono ?_
            rintro e' w9 ⟨rfl, ⟨sv9, h9, -⟩, o9⟩
            have M9 := Lib.hid h9; have O9 := Lib.hid (O8.out.trans o9.b)
            have y0 := only_cell o9 z0 hg8 HGB.out
            clear h9 o9 z0 M8 O8 hg8
            go_wp2_with fail
            refine (sum_any _ _ x y z w9 hxw hyw HZZ.out).mono ?_
            rintro e' w10 ⟨rfl, rfl⟩
            go_wp2_with fail
            refine (push_any u { S1 with stack := r } sv9 m1 dv7 z w10 M9.out (HZZ.out.lt hxw hyw) hlr).mono ?_
            rintro e w11 ⟨rfl, ⟨sv11, m11, h11⟩, o11⟩
            have M11 := Lib.hid h11; have O11 := Lib.hid (O9.out.trans (M9.out.pm o11))
            clear y0 M9 O9
            go_wp2_with fail
            refine ⟨⟨p + 1, q + 1, _, sv11, m11, dv7, by go_num, by go_num, by omega, HR2, M11, HD3, fun j hj => HZ3.out j (by omega), ⟨fun a => by first | exact Nat.le_succ_of_le (HCN.out.1 a) | exact upd_cnt HCN.out.1 _ a, fun a => by first | exact Nat.le_succ_of_le (HCN.out.2 a) | exact upd_cnt HCN.out.2 _ a⟩, O11⟩, ?_⟩
            simp [intOf]; omega
        · as_aux_lemma =>
            go_wp2_with fail
            refine (pop_any u S1 sv m1 dv7 y (x :: r) w7 HM3.out HE.out).mono ?_
            rintro e' w8 ⟨rfl, ⟨sv8, h8, -⟩, o8⟩
            have M8 := Lib.hid h8; have O8 := Lib.hid (HO3.out.trans o8.b)
            have z0 := only_cell o8 x0 hgi HGB.out
            have hg8 : gi < w8.heap.size := World.block_lt_of_cell? _ _ z0
            clear h8 o8 x0 x1 x2 x3 HM3 HO3 KI3 y596
            go_wp2_with fail
            refine (pop_any u { S1 with stack := x :: r } sv8 m1 dv7 x r w8 M8.out rfl).mono ?_
            rintro e' w9 ⟨rfl, ⟨sv9, h9, -⟩, o9⟩
            have M9 := Lib.hid h9; have O9 := Lib.hid (O8.out.trans o9.b)
            have y0 := only_cell o9 z0 hg8 HGB.out
            clear h9 o9 z0 M8 O8 hg8
            go_wp2_with fail
            refine (sum_any _ _ x y z w9 hxw hyw HZZ.out).mono ?_
            rintro e' w10 ⟨rfl, rfl⟩
            go_wp2_with fail
            refine (push_any u { S1 with stack := r } sv9 m1 dv7 z w10 M9.out (HZZ.out.lt hxw hyw) hlr).mono ?_
            rintro e w11 ⟨rfl, ⟨sv11, m11, h11⟩, o11⟩
            have M11 := Lib.hid h11; have O11 := Lib.hid (O9.out.trans (M9.out.pm o11))
            clear y0 M9 O9
            go_wp2_with fail
            refine ⟨⟨p + 1, q + 1, _, sv11, m11, dv7, by go_num, by go_num, by omega, HR2, M11, HD3, fun j hj => HZ3.out j (by omega), ⟨fun a => by first | exact Nat.le_succ_of_le (HCN.out.1 a) | exact upd_cnt HCN.out.1 _ a, fun a => by first | exact Nat.le_succ_of_le (HCN.out.2 a) | exact upd_cnt HCN.out.2 _ a⟩, O11⟩, ?_⟩
            simp [intOf]; omega
        · as_aux_lemma =>
            go_wp2_with fail
            refine (pop_any u S1 sv m1 dv7 y (x :: r) w7 HM3.out HE.out).mono ?_
            rintro e' w8 ⟨rfl, ⟨sv8, h8, -⟩, o8⟩
            have M8 := Lib.hid h8; have O8 := Lib.hid (HO3.out.trans o8.b)
            have z0 := only_cell o8 x0 hgi HGB.out
            have hg8 : gi < w8.heap.size := World.block_lt_of_cell? _ _ z0
            clear h8 o8 x0 x1 x2 x3 HM3 HO3 KI3 y596
            go_wp2_with fail
            refine (pop_any u { S1 with stack := x :: r } sv8 m1 dv7 x r w8 M8.out rfl).mono ?_
            rintro e' w9 ⟨rfl, ⟨sv9, h9, -⟩, o9⟩
            have M9 := Lib.hid h9; have O9 := Lib.hid (O8.out.trans o9.b)
            have y0 := only_cell o9 z0 hg8 HGB.out
            clear h9 o9 z0 M8 O8 hg8
            go_wp2_with fail
            refine (sum_any _ _ x y z w9 hxw hyw HZZ.out).mono ?_
            rintro e' w10 ⟨rfl, rfl⟩
            go_wp2_with fail
            refine (push_any u { S1 with stack := r } sv9 m1 dv7 z w10 M9.out (HZZ.out.lt hxw hyw) hlr).mono ?_
            rintro e w11 ⟨rfl, ⟨sv11, m11, h11⟩, o11⟩
            have M11 := Lib.hid h11; have O11 := Lib.hid (O9.out.trans (M9.out.pm o11))
            clear y0 M9 O9
            go_wp2_with fail
            refine ⟨⟨p + 1, q + 1, _, sv11, m11, dv7, by go_num, by go_num, by omega, HR2, M11, HD3, fun j hj => HZ3.out j (by omega), ⟨fun a => by first | exact Nat.le_succ_of_le (HCN.out.1 a) | exact upd_cnt HCN.out.1 _ a, fun a => by first | exact Nat.le_succ_of_le (HCN.out.2 a) | exact upd_cnt HCN.out.2 _ a⟩, O11⟩, ?_⟩
            simp [intOf]; omega
        · as_aux_lemma =>
            go_wp2_with fail
            refine (pop_any u S1 sv m1 dv7 y (x :: r) w7 HM3.out HE.out).mono ?_
            rintro e' w8 ⟨rfl, ⟨sv8, h8, -⟩, o8⟩
            have M8 := Lib.hid h8; have O8 := Lib.hid (HO3.out.trans o8.b)
            have z0 := only_cell o8 x0 hgi HGB.out
            have hg8 : gi < w8.heap.size := World.block_lt_of_cell? _ _ z0
            clear h8 o8 x0 x1 x2 x3 HM3 HO3 KI3 y596
            go_wp2_with fail
            refine (pop_any u { S1 with stack := x :: r } sv8 m1 dv7 x r w8 M8.out rfl).mono ?_
            rintro e' w9 ⟨rfl, ⟨sv9, h9, -⟩, o9⟩
            have M9 := Lib.hid h9; have O9 := Lib.hid (O8.out.trans o9.b)
            have y0 := only_cell o9 z0 hg8 HGB.out
            clear h9 o9 z0 M8 O8 hg8
            go_wp2_with fail
            refine (sum_any _ _ x y z w9 hxw hyw HZZ.out).mono ?_
            rintro e' w10 ⟨rfl, rfl⟩
            go_wp2_with fail
            refine (push_any u { S1 with stack := r } sv9 m1 dv7 z w10 M9.out (HZZ.out.lt hxw hyw) hlr).mono ?_
            rintro e w11 ⟨rfl, ⟨sv11, m11, h11⟩, o11⟩
            have M11 := Lib.hid h11; have O11 := Lib.hid (O9.out.trans (M9.out.pm o11))
            clear y0 M9 O9
            go_wp2_with fail
            refine ⟨⟨p + 1, q + 1, _, sv11, m11, dv7, by go_num, by go_num, by omega, HR2, M11, HD3, fun j hj => HZ3.out j (by omega), ⟨fun a => by first | exact Nat.le_succ_of_le (HCN.out.1 a) | exact upd_cnt HCN.out.1 _ a, fun a => by first | exact Nat.le_succ_of_le (HCN.out.2 a) | exact upd_cnt HCN.out.2 _ a⟩, O11⟩, ?_⟩
            simp [intOf]; omega
        · as_aux_lemma =>
            go_wp2_with fail
            refine (pop_any u S1 sv m1 dv7 y (x :: r) w7 HM3.out HE.out).mono ?_
            rintro e' w8 ⟨rfl, ⟨sv8, h8, -⟩, o8⟩
            have M8 := Lib.hid h8; have O8 := Lib.hid (HO3.out.trans o8.b)
            have z0 := only_cell o8 x0 hgi HGB.out
            have hg8 : gi < w8.heap.size := World.block_lt_of_cell? _ _ z0
            clear h8 o8 x0 x1 x2 x3 HM3 HO3 KI3 y596
            go_wp2_with fail
            refine (pop_any u { S1 with stack := x :: r } sv8 m1 dv7 x r w8 M8.out rfl).mono ?_
            rintro e' w9 ⟨rfl, ⟨sv9, h9, -⟩, o9⟩
            have M9 := Lib.hid h9; have O9 := Lib.hid (O8.out.trans o9.b)
            have y0 := only_cell o9 z0 hg8 HGB.out
            clear h9 o9 z0 M8 O8 hg8
            go_wp2_with fail
            refine (sum_any _ _ x y z w9 hxw hyw HZZ.out).mono ?_
            rintro e' w10 ⟨rfl, rfl⟩
            go_wp2_with fail
            refine (push_any u { S1 with stack := r } sv9 m1 dv7 z w10 M9.out (HZZ.out.lt hxw hyw) hlr).mono ?_
            rintro e w11 ⟨rfl, ⟨sv11, m11, h11⟩, o11⟩
            have M11 := Lib.hid h11; have O11 := Lib.hid (O9.out.trans (M9.out.pm o11))
            clear y0 M9 O9
            go_wp2_with fail
            refine ⟨⟨p + 1, q + 1, _, sv11, m11, dv7, by go_num, by go_num, by omega, HR2, M11, HD3, fun j hj => HZ3.out j (by omega), ⟨fun a => by first | exact Nat.le_succ_of_le (HCN.out.1 a) | exact upd_cnt HCN.out.1 _ a, fun a => by first | exact Nat.le_succ_of_le (HCN.out.2 a) | exact upd_cnt HCN.out.2 _ a⟩, O11⟩, ?_⟩
            simp [intOf]; omega
        · as_aux_lemma =>
            go_wp2_with fail
            refine (pop_any u S1 sv m1 dv7 y (x :: r) w7 HM3.out HE.out).mono ?_
            rintro e' w8 ⟨rfl, ⟨sv8, h8, -⟩, o8⟩
            have M8 := Lib.hid h8; have O8 := Lib.hid (HO3.out.trans o8.b)
            have z0 := only_cell o8 x0 hgi HGB.out
            have hg8 : gi < w8.heap.size := World.block_lt_of_cell? _ _ z0
            clear h8 o8 x0 x1 x2 x3 HM3 HO3 KI3 y596
            go_wp2_with fail
            refine (pop_any u { S1 with stack := x :: r } sv8 m1 dv7 x r w8 M8.out rfl).mono ?_
            rintro e' w9 ⟨rfl, ⟨sv9, h9, -⟩, o9⟩
            have M9 := Lib.hid h9; have O9 := Lib.hid (O8.out.trans o9.b)
            have y0 := only_cell o9 z0 hg8 HGB.out
            clear h9 o9 z0 M8 O8 hg8
            go_wp2_with fail
            refine (sum_any _ _ x y z w9 hxw hyw HZZ.out).mono ?_
            rintro e' w10 ⟨rfl, rfl⟩
            go_wp2_with fail
            refine (push_any u { S1 with stack := r } sv9 m1 dv7 z w10 M9.out (HZZ.out.lt hxw hyw) hlr).mono ?_
            rintro e w11 ⟨rfl, ⟨sv11, m11, h11⟩, o11⟩
            have M11 := Lib.hid h11; have O11 := Lib.hid (O9.out.trans (M9.out.pm o11))
            clear y0 M9 O9
            go_wp2_with fail
            refine ⟨⟨p + 1, q + 1, _, sv11, m11, dv7, by go_num, by go_num, by omega, HR2, M11, HD3, fun j hj => HZ3.out j (by omega), ⟨fun a => by first | exact Nat.le_succ_of_le (HCN.out.1 a) | exact upd_cnt HCN.out.1 _ a, fun a => by first | exact Nat.le_succ_of_le (HCN.out.2 a) | exact upd_cnt HCN.out.2 _ a⟩, O11⟩, ?_⟩
            simp [intOf]; omega
        · as_aux_lemma =>
            go_wp2_with fail
            refine (pop_any u S1 sv m1 dv7 y (x :: r) w7 HM3.out HE.out).mono ?_
            rintro e' w8 ⟨rfl, ⟨sv8, h8, -⟩, o8⟩
            have M8 := Lib.hid h8; have O8 := Lib.hid (HO3.out.trans o8.b)
            have z0 := only_cell o8 x0 hgi HGB.out
            have hg8 : gi < w8.heap.size := World.block_lt_of_cell? _ _ z0
            clear h8 o8 x0 x1 x2 x3 HM3 HO3 KI3 y596
            go_wp2_with fail
            refine (pop_any u { S1 with stack := x :: r } sv8 m1 dv7 x r w8 M8.out rfl).mono ?_
            rintro e' w9 ⟨rfl, ⟨sv9, h9, -⟩, o9⟩
            have M9 := Lib.hid h9; have O9 := Lib.hid (O8.out.trans o9.b)
            have y0 := only_cell o9 z0 hg8 HGB.out
            clear h9 o9 z0 M8 O8 hg8
            go_wp2_with fail
            refine (sum_any _ _ x y z w9 hxw hyw HZZ.out).mono ?_
            rintro e' w10 ⟨rfl, rfl⟩
            go_wp2_with fail
            refine (push_any u { S1 with stack := r } sv9 m1 dv7 z w10 M9.out (HZZ.out.lt hxw hyw) hlr).mono ?_
            rintro e w11 ⟨rfl, ⟨sv11, m11, h11⟩, o11⟩
            have M11 := Lib.hid h11; have O11 := Lib.hid (O9.out.trans (M9.out.pm o11))
            clear y0 M9 O9
            go_wp2_with fail
            refine ⟨⟨p + 1, q + 1, _, sv11, m11, dv7, by go_num, by go_num, by omega, HR2, M11, HD3, fun j hj => HZ3.out j (by omega), ⟨fun a => by first | exact Nat.le_succ_of_le (HCN.out.1 a) | exact upd_cnt HCN.out.1 _ a, fun a => by first | exact Nat.le_succ_of_le (HCN.out.2 a) | exact upd_cnt HCN.out.2 _ a⟩, O11⟩, ?_⟩
            simp [intOf]; omega
        · as_aux_lemma =>
            go_wp2_with fail
            refine (pop_any u S1 sv m1 dv7 y (x :: r) w7 HM3.out HE.out).mono ?_
            rintro e' w8 ⟨rfl, ⟨sv8, h8, -⟩, o8⟩
            have M8 := Lib.hid h8; have O8 := Lib.hid (HO3.out.trans o8.b)
            have z0 := only_cell o8 x0 hgi HGB.out
            have hg8 : gi < w8.heap.size := World.block_lt_of_cell? _ _ z0
            clear h8 o8 x0 x1 x2 x3 HM3 HO3 KI3 y596
            go_wp2_with fail
            refine (pop_any u { S1 with stack := x :: r } sv8 m1 dv7 x r w8 M8.out rfl).mono ?_
            rintro e' w9 ⟨rfl, ⟨sv9, h9, -⟩, o9⟩
            have M9 := Lib.hid h9; have O9 := Lib.hid (O8.out.trans o9.b)
            have y0 := only_cell o9 z0 hg8 HGB.out
            clear h9 o9 z0 M8 O8 hg8
            go_wp2_with fail
            refine (sum_any _ _ x y z w9 hxw hyw HZZ.out).mono ?_
            rintro e' w10 ⟨rfl, rfl⟩
            go_wp2_with fail
            refine (push_any u { S1 with stack := r } sv9 m1 dv7 z w10 M9.out (HZZ.out.lt hxw hyw) hlr).mono ?_
            rintro e w11 ⟨rfl, ⟨sv11, m11, h11⟩, o11⟩
            have M11 := Lib.hid h11; have O11 := Lib.hid (O9.out.trans (M9.out.pm o11))
            clear y0 M9 O9
            go_wp2_with fail
            refine ⟨⟨p + 1, q + 1, _, sv11, m11, dv7, by go_num, by go_num, by omega, HR2, M11, HD3, fun j hj => HZ3.out j (by omega), ⟨fun a => by first | exact Nat.le_succ_of_le (HCN.out.1 a) | exact upd_cnt HCN.out.1 _ a, fun a => by first | exact Nat.le_succ_of_le (HCN.out.2 a) | exact upd_cnt HCN.out.2 _ a⟩, O11⟩, ?_⟩
            simp [intOf]; omega
        · as_aux_lemma =>
            go_wp2_with fail
            refine (pop_any u S1 sv m1 dv7 y (x :: r) w7 HM3.out HE.out).mono ?_
            rintro e' w8 ⟨rfl, ⟨sv8, h8, -⟩, o8⟩
            have M8 := Lib.hid h8; have O8 := Lib.hid (HO3.out.trans o8.b)
            have z0 := only_cell o8 x0 hgi HGB.out
            have hg8 : gi < w8.heap.size := World.block_lt_of_cell? _ _ z0
            clear h8 o8 x0 x1 x2 x3 HM3 HO3 KI3 y596
            go_wp2_with fail
            refine (pop_any u { S1 with stack := x :: r } sv8 m1 dv7 x r w8 M8.out rfl).mono ?_
            rintro e' w9 ⟨rfl, ⟨sv9, h9, -⟩, o9⟩
            have M9 := Lib.hid h9; have O9 := Lib.hid (O8.out.trans o9.b)
            have y0 := only_cell o9 z0 hg8 HGB.out
            clear h9 o9 z0 M8 O8 hg8
            go_wp2_with fail
            refine (sum_any _ _ x y z w9 hxw hyw HZZ.out).mono ?_
            rintro e' w10 ⟨rfl, rfl⟩
            go_wp2_with fail
            refine (push_any u { S1 with stack := r } sv9 m1 dv7 z w10 M9.out (HZZ.out.lt hxw hyw) hlr).mono ?_
            rintro e w11 ⟨rfl, ⟨sv11, m11, h11⟩, o11⟩
            have M11 := Lib.hid h11; have O11 := Lib.hid (O9.out.trans (M9.out.pm o11))
            clear y0 M9 O9
            go_wp2_with fail
            refine ⟨⟨p + 1, q + 1, _, sv11, m11, dv7, by go_num, by go_num, by omega, HR2, M11, HD3, fun j hj => HZ3.out j (by omega), ⟨fun a => by first | exact Nat.le_succ_of_le (HCN.out.1 a) | exact upd_cnt HCN.out.1 _ a, fun a => by first | exact Nat.le_succ_of_le (HCN.out.2 a) | exact upd_cnt HCN.out.2 _ a⟩, O11⟩, ?_⟩
            simp [intOf]; omega
      | load _ _ x r _ e h1 h2 h3 =>
        as_aux_lemma =>
          obtain ⟨j, hj⟩ : ∃ j, j = x + ic - S1.base := ⟨_, rfl⟩
          have hat : S1.base + j = x + ic := by omega
          have hlr : r.length < 16 := by have := hl2; simp only [List.length_cons] at this; omega
          have HJ := Lib.hid hj
          rw [← hj] at hl2 HR2
          have hsum : ((x : Int) + (ic : Int)) % 4294967296 = ((S1.base + j : Nat) : Int) := by rw [hat]; omega
          have hj2 : j + 4 ≤ S1.dn := by omega
          have hj3 : S1.base + j + 4 ≤ 4294967296 := by omega
          obtain ⟨t, ht⟩ : ∃ t, t = S1.base + j := ⟨_, rfl⟩
          rw [← ht] at hsum
          have HT := Lib.hid ht
          have HE := Lib.hid e
          clear hj hat ht e
          go_upto_region 46 with fail
          have KS : Hid (∀ W : World, (W.cell? ⟨gi, 1, none⟩ = some (.int .u8 4) ∧ W.cell? ⟨gi, 3, none⟩ = some (.int .u32 (ic : Int))) → (W.cell? ⟨gi, 1, none⟩ = some (.int .u8 4) ∧ W.cell? ⟨gi, 3, none⟩ = some (.int .u32 (ic : Int)))) := fun W h => h
          refine wp_region_T (fun W => W.cell? ⟨gi, 1, none⟩ = some (.int .u8 4) ∧ W.cell? ⟨gi, 3, none⟩ = some (.int .u32 (ic : Int))) [] (by kernel_rfl) ?_
          change wpAnyT _ _ _ _ _ _ _ _ _ (World.drew _)
          have S1' : (fun W : World => W.cell? ⟨gi, 1, none⟩ = some (.int .u8 4) ∧ W.cell? ⟨gi, 3, none⟩ = some (.int .u32 (ic : Int))) w7.drew := ⟨x1, x3⟩
          clear x0 x1 x2 x3 y596
          refine wpAnyT_pure (i := 0) (v := ?_) rfl (by kernel_rfl) (by kernel_rfl) (by kernel_rfl) (by kernel_rfl) (fun _ _ _ h => h) (Or.inl ⟨by kernel_rfl, ?_⟩) (fun _ => by assumption) ?_
          rotate_left
          · intro V hV; clear hV; go_simp; try (with_reducible rfl)
          try simp only [Act.put, List.getElem_toArray, List.getElem_cons_succ, List.getElem_cons_zero, List.setIfInBounds_toArray, List.set_cons_zero, List.set_cons_succ]
          refine wpAnyT_pure (i := 1) (v := ?_) rfl (by kernel_rfl) (by kernel_rfl) (by kernel_rfl) (by kernel_rfl) (fun _ _ _ h => h) (Or.inl ⟨by kernel_rfl, ?_⟩) (fun _ => by assumption) ?_
          rotate_left
          · intro V hV; clear hV; go_simp; try (with_reducible rfl)
          try simp only [Act.put, List.getElem_toArray, List.getElem_cons_succ, List.getElem_cons_zero, List.setIfInBounds_toArray, List.set_cons_zero, List.set_cons_succ]
          refine wpAnyT_pure (i := 2) (v := ?_) rfl (by kernel_rfl) (by kernel_rfl) (by kernel_rfl) (by kernel_rfl) (fun _ _ _ h => h) (Or.inl ⟨by kernel_rfl, ?_⟩) (fun _ => by assumption) ?_
          rotate_left
          · intro V hV; clear hV; go_simp; try (with_reducible rfl)
          try simp only [Act.put, List.getElem_toArray, List.getElem_cons_succ, List.getElem_cons_zero, List.setIfInBounds_toArray, List.set_cons_zero, List.set_cons_succ]
          refine wpAnyT_pure (i := 4) (v := ?_) rfl (by kernel_rfl) (by kernel_rfl) (by kernel_rfl) (by kernel_rfl) (fun _ _ _ h => h) (Or.inl ⟨by kernel_rfl, ?_⟩) (fun _ => by assumption) ?_
          rotate_left
          · intro V hV; clear hV; go_simp; try (with_reducible rfl)
          try simp only [Act.put, List.getElem_toArray, List.getElem_cons_succ, List.getElem_cons_zero, List.setIfInBounds_toArray, List.set_cons_zero, List.set_cons_succ]
          refine wpAnyT_take (i := 5) (v := ?_) rfl (by kernel_rfl) (by kernel_rfl) (by kernel_rfl) (by kernel_rfl) (fun _ _ _ h => h) (Or.inl ⟨by kernel_rfl, ?_⟩) (by assumption) ?_
          rotate_left
          · intro V hV; have k := KS.out V hV; clear hV; go_simp; try (with_reducible rfl)
          try simp only [Act.put, List.getElem_toArray, List.getElem_cons_succ, List.getElem_cons_zero, List.setIfInBounds_toArray, List.set_cons_zero, List.set_cons_succ]
          refine wpAnyT_pure (i := 7) (v := ?_) rfl (by kernel_rfl) (by kernel_rfl) (by kernel_rfl) (by kernel_rfl) (fun _ _ _ h => h) (Or.inl ⟨by kernel_rfl, ?_⟩) (fun _ => by assumption) ?_
          rotate_left
          · intro V hV; clear hV; go_simp; try (with_reducible rfl)
          try simp only [Act.put, List.getElem_toArray, List.getElem_cons_succ, List.getElem_cons_zero, List.setIfInBounds_toArray, List.set_cons_zero, List.set_cons_succ]
          refine wpAnyT_take (i := 8) (v := ?_) rfl (by kernel_rfl) (by kernel_rfl) (by kernel_rfl) (by kernel_rfl) (fun _ _ _ h => h) (Or.inl ⟨by kernel_rfl, ?_⟩) (by assumption) ?_
          rotate_left
          · intro V hV; have k := KS.out V hV; clear hV; go_simp; try (with_reducible rfl)
          try simp only [Act.put, List.getElem_toArray, List.getElem_cons_succ, List.getElem_cons_zero, List.setIfInBounds_toArray, List.set_cons_zero, List.set_cons_succ]
          refine wpAnyT_pure (i := 9) (v := ?_) rfl (by kernel_rfl) (by kernel_rfl) (by kernel_rfl) (by kernel_rfl) (fun _ _ _ h => h) (Or.inl ⟨by kernel_rfl, ?_⟩) (fun _ => by assumption) ?_
          rotate_left
          · intro V hV; clear hV; go_simp; try (with_reducible rfl)
          try simp only [Act.put, List.getElem_toArray, List.getElem_cons_succ, List.getElem_cons_zero, List.setIfInBounds_toArray, List.set_cons_zero, List.set_cons_succ]
          have HP := Lib.hid (pop_any u S1 sv m1 dv7 x r w7.drew HM3.out.drew HE.out)
          refine wpAnyT_one (i := 3) (by kernel_rfl) rfl (fun K hK => ?_)
          go_simp
          refine HP.out.mono ?_
          rintro e w8 ⟨rfl, ⟨sv8, h8, hown8⟩, o8⟩
          have S8 : (fun W : World => W.cell? ⟨gi, 1, none⟩ = some (.int .u8 4) ∧ W.cell? ⟨gi, 3, none⟩ = some (.int .u32 (ic : Int))) w8 := ⟨only_cell o8 S1'.1 hgi HGB.out, only_cell o8 S1'.2 hgi HGB.out⟩
          refine hK.out _ _ (fun _ => S8) ?_
          have hg8 : gi < w8.heap.size := World.block_lt_of_cell? _ _ S8.1
          have M8 := Lib.hid h8; have O8 := Lib.hid (HO3.out.drew.trans o8.b)
          have HOWN8 : Hid (∀ k, sv8.ownBlock = some k → k < gi) := fun k hk => HOWN.out k (by rw [← hown8]; exact hk)
          clear hK K S1' h8 o8 HP HM3 HO3 hown8
          try simp only [Act.put, List.getElem_toArray, List.getElem_cons_succ, List.getElem_cons_zero, List.setIfInBounds_toArray, List.set_cons_zero, List.set_cons_succ]
          refine wpAnyT_pure (i := 6) (v := ?_) rfl (by kernel_rfl) (by kernel_rfl) (by kernel_rfl) (by kernel_rfl) (fun _ _ _ h => h) (Or.inl ⟨by kernel_rfl, ?_⟩) (fun _ => by assumption) ?_
          rotate_left
          · intro V hV; clear hV; go_simp; try (with_reducible rfl)
          try simp only [Act.put, List.getElem_toArray, List.getElem_cons_succ, List.getElem_cons_zero, List.setIfInBounds_toArray, List.set_cons_zero, List.set_cons_succ]
          have HL := Lib.hid (load_any u { S1 with stack := r } sv8 m1 dv7 j w8 M8.out hj2 hj3)
          rw [show ((({ S1 with stack := r } : MS).base + j : Nat)) = t from HT.out.symm] at HL
          refine wpAnyT_one (i := 10) (by kernel_rfl) rfl (fun K hK => ?_)
          go_simp
          rw [show IntKind.u32.wrap ((x : Int) + (ic : Int)) = (t : Int) from hsum, show IntKind.u32.wrap 4 = 4 from rfl]
          refine HL.out.mono ?_
          rintro e w9 ⟨rfl, b9⟩
          have S9 : (fun W : World => W.cell? ⟨gi, 1, none⟩ = some (.int .u8 4) ∧ W.cell? ⟨gi, 3, none⟩ = some (.int .u32 (ic : Int))) w9 := ⟨(b9.cell hg8).trans S8.1, (b9.cell hg8).trans S8.2⟩
          refine hK.out _ _ (fun _ => S9) ?_
          have hg9 : gi < w9.heap.size := World.block_lt_of_cell? _ _ S9.1
          have M9 := Lib.hid (M8.out.below b9); have O9 := Lib.hid (O8.out.trans (Only.of_below _ b9))
          clear hK K S8 b9 HL M8 O8 hg8
          try simp only [Act.put, List.getElem_toArray, List.getElem_cons_succ, List.getElem_cons_zero, List.setIfInBounds_toArray, List.set_cons_zero, List.set_cons_succ]
          have HQ := Lib.hid (push_any u { S1 with stack := r } sv8 m1 dv7 (wordD S1.data j) w9 M9.out (word_lt _ M9.out.ok.data _) hlr)
          refine wpAnyT_one (i := 11) (by kernel_rfl) rfl (fun K hK => ?_)
          go_simp
          refine HQ.out.mono ?_
          rintro e w10 ⟨rfl, ⟨sv10, m10, h10⟩, o10⟩
          have hnp : ¬ PM u sv8 gi := fun hi => hi.elim HGB.out (fun e => by have := HOWN8.out _ e; omega)
          have S10 : (fun W : World => W.cell? ⟨gi, 1, none⟩ = some (.int .u8 4) ∧ W.cell? ⟨gi, 3, none⟩ = some (.int .u32 (ic : Int))) w10 := ⟨only_cell o10 S9.1 hg9 hnp, only_cell o10 S9.2 hg9 hnp⟩
          refine hK.out _ _ (fun _ => S10) ?_
          have M10 := Lib.hid h10; have O10 := Lib.hid (O9.out.trans (M9.out.pm o10))
          clear hK K S9 S10 hnp HQ M9 O9 hg9 h10 o10
          try simp only [Act.put, List.getElem_toArray, List.getElem_cons_succ, List.getElem_cons_zero, List.setIfInBounds_toArray, List.set_cons_zero, List.set_cons_succ]
          refine wpAnyT_done (by kernel_rfl) ?_ _
          go_wp2_with fail
          refine ⟨⟨p + 1, q + 1, _, sv10, m10, dv7, by go_num, by go_num, by omega, HR2, M10, HD3, fun j hj => HZ3.out j (by omega), ⟨fun a => by first | exact Nat.le_succ_of_le (HCN.out.1 a) | exact upd_cnt HCN.out.1 _ a, fun a => by first | exact Nat.le_succ_of_le (HCN.out.2 a) | exact upd_cnt HCN.out.2 _ a⟩, O10⟩, ?_⟩
          simp [intOf]; omega
      | store _ _ x y r _ e h1 h2 h3 =>
        as_aux_lemma =>
          obtain ⟨j, hj⟩ : ∃ j, j = x + ic - S1.base := ⟨_, rfl⟩
          have hat : S1.base + j = x + ic := by omega
          have HJ := Lib.hid hj
          rw [← hj] at hl2 HR2
          have hsum : ((x : Int) + (ic : Int)) % 4294967296 = ((S1.base + j : Nat) : Int) := by rw [hat]; omega
          have hj2 : j + 4 ≤ S1.dn := by omega
          have hj3 : S1.base + j + 4 ≤ 4294967296 := by omega
          have hyw : y < 4294967296 := HM3.out.ok.stack y (by rw [e]; simp)
          have hxc : x + ic + 4 ≤ 4294967296 := h3
          obtain ⟨t, ht⟩ : ∃ t, t = x + ic := ⟨_, rfl⟩
          have hts : ((x : Int) + (ic : Int)) = (t : Int) := by omega
          have HT : Hid (t = S1.base + j) := by show _ = _; omega
          have HE := Lib.hid e
          clear hj hat ht e hsum h1 h2 h3
          go_wp2_with fail
          refine (pop_any u S1 sv m1 dv7 y (x :: r) w7 HM3.out HE.out).mono ?_
          rintro e' w8 ⟨rfl, ⟨sv8, h8, -⟩, o8⟩
          have M8 := Lib.hid h8; have O8 := Lib.hid (HO3.out.trans o8.b)
          have z1 := only_cell o8 x1 hgi HGB.out
          have z3 := only_cell o8 x3 hgi HGB.out
          have hg8 : gi < w8.heap.size := World.block_lt_of_cell? _ _ z1
          clear h8 o8 x0 x1 x2 x3 HM3 HO3 KI3 y596
          go_wp2_with fail
          refine (pop_any u { S1 with stack := x :: r } sv8 m1 dv7 x r w8 M8.out rfl).mono ?_
          rintro e' w9 ⟨rfl, ⟨sv9, h9, -⟩, o9⟩
          have M9 := Lib.hid h9; have O9 := Lib.hid (O8.out.trans o9.b)
          have y1 := only_cell o9 z1 hg8 HGB.out
          have y3 := only_cell o9 z3 hg8 HGB.out
          clear h9 o9 z1 z3 M8 O8 hg8
          have HSt := Lib.hid (store_any u { S1 with stack := r } sv9 m1 dv7 j y w9 M9.out hyw hj2 hj3)
          rw [show ((({ S1 with stack := r } : MS).base + j : Nat)) = t from HT.out.symm] at HSt
          go_wp2_with fail
          refine HSt.out.mono ?_
          rintro e w10 ⟨rfl, h10, o10⟩
          have M10 := Lib.hid h10; have O10 := Lib.hid (O9.out.trans o10)
          clear y1 y3 M9 O9 HSt
          go_wp2_with fail
          refine ⟨⟨p + 1, q + 1, _, sv9, m1, dv7, by go_num, by go_num, by omega, HR2, M10, HD3, fun j hj => HZ3.out j (by omega), ⟨fun a => by first | exact Nat.le_succ_of_le (HCN.out.1 a) | exact upd_cnt HCN.out.1 _ a, fun a => by first | exact Nat.le_succ_of_le (HCN.out.2 a) | exact upd_cnt HCN.out.2 _ a⟩, O10⟩, ?_⟩
          simp [intOf]; omega
      | else_ _ _ _ x r _ e hx0 =>
        as_aux_lemma =>
          have tx : ((x : Int) == 0) = false := beq_eq_false_iff_ne.2 (by omega)
          have HE := Lib.hid e
          clear e
          go_wp2_with fail
          refine (pop_any u S1 sv m1 dv7 x r w7 HM3.out HE.out).mono ?_
          rintro e' w8 ⟨rfl, ⟨sv8, h8, -⟩, o8⟩
          have M8 := Lib.hid h8; have O8 := Lib.hid (HO3.out.trans o8.b)
          clear HM3 HO3 x0 x1 x2 x3 y596 KI3
          go_wp2_with fail
          refine ⟨⟨p + 1, q + 1, _, sv8, m1, dv7, by go_num, by go_num, by omega, HR2, M8, HD3, fun j hj => HZ3.out j (by omega), ⟨fun a => by first | exact Nat.le_succ_of_le (HCN.out.1 a) | exact upd_cnt HCN.out.1 _ a, fun a => by first | exact Nat.le_succ_of_le (HCN.out.2 a) | exact upd_cnt HCN.out.2 _ a⟩, O8⟩, ?_⟩
          simp [intOf]; omega
      | in_ _ _ _ _ ha hb =>
        as_aux_lemma =>
          have hlt : S1.stack.length < 16 := by have := hl2; simp only [List.length_cons] at this; omega
          go_wp2_with fail
          refine (field_in u S1 sv m1 dv7 ia ib ic w7 HM3.out ha hb hlt).mono ?_
          rintro e w8 ⟨rfl, ⟨sv8, m8, h8⟩, o8⟩
          have M8 := Lib.hid h8; have O8 := Lib.hid (HO3.out.trans o8)
          clear HM3 HO3 x0 x1 x2 x3 y596 KI3
          go_wp2_with fail
          refine ⟨⟨p + 1, q + 1, _, sv8, m8, dv7, by go_num, by go_num, by omega, HR2, M8, HD3, fun j hj => HZ3.out j (by omega), ⟨fun a => by first | exact Nat.le_succ_of_le (HCN.out.1 a) | exact upd_cnt HCN.out.1 _ a, fun a => by first | exact Nat.le_succ_of_le (HCN.out.2 a) | exact upd_cnt HCN.out.2 _ a⟩, O8⟩, ?_⟩
          simp [intOf]; omega
      | read _ _ _ _ ha hb =>
        as_aux_lemma =>
          have hlt : S1.stack.length < 16 := by have := hl2; simp only [List.length_cons] at this; omega
          go_wp2_with fail
          refine (field_read u S1 sv m1 dv7 ia ib ic w7 HM3.out ha hb hlt).mono ?_
          rintro e w8 ⟨rfl, ⟨sv8, m8, h8⟩, o8⟩
          have M8 := Lib.hid h8; have O8 := Lib.hid (HO3.out.trans o8)
          clear HM3 HO3 x0 x1 x2 x3 y596 KI3
          go_wp2_with fail
          refine ⟨⟨p + 1, q + 1, _, sv8, m8, dv7, by go_num, by go_num, by omega, HR2, M8, HD3, fun j hj => HZ3.out j (by omega), ⟨fun a => by first | exact Nat.le_succ_of_le (HCN.out.1 a) | exact upd_cnt HCN.out.1 _ a, fun a => by first | exact Nat.le_succ_of_le (HCN.out.2 a) | exact upd_cnt HCN.out.2 _ a⟩, O8⟩, ?_⟩
          simp [intOf]; omega
      | out _ _ _ x r _ e ha hb =>
        as_aux_lemma =>
          have HE := Lib.hid e
          clear e
          go_wp2_with fail
          refine (field_out u S1 sv m1 dv7 ia ib ic x r w7 HM3.out ha hb HE.out (by have := HCN.out.1 ia; omega)).mono ?_
          rintro e w8 ⟨rfl, ⟨sv8, m8, h8⟩, o8⟩
          have M8 := Lib.hid h8; have O8 := Lib.hid (HO3.out.trans o8)
          clear HM3 HO3 x0 x1 x2 x3 y596 KI3
          go_wp2_with fail
          refine ⟨⟨p + 1, q + 1, _, sv8, m8, dv7, by go_num, by go_num, by omega, HR2, M8, HD3, fun j hj => HZ3.out j (by omega), ⟨fun a => by first | exact Nat.le_succ_of_le (HCN.out.1 a) | exact upd_cnt HCN.out.1 _ a, fun a => by first | exact Nat.le_succ_of_le (HCN.out.2 a) | exact upd_cnt HCN.out.2 _ a⟩, O8⟩, ?_⟩
          simp [intOf]; omega
      | put _ _ _ x r _ e ha hb =>
        as_aux_lemma =>
          have HE := Lib.hid e
          clear e
          go_wp2_with fail
          refine (field_put u S1 sv m1 dv7 ia ib ic x r w7 HM3.out ha hb HE.out (by have := HCN.out.1 ia; omega)).mono ?_
          rintro e w8 ⟨rfl, ⟨sv8, m8, h8⟩, o8⟩
          have M8 := Lib.hid h8; have O8 := Lib.hid (HO3.out.trans o8)
          clear HM3 HO3 x0 x1 x2 x3 y596 KI3
          go_wp2_with fail
          refine ⟨⟨p + 1, q + 1, _, sv8, m8, dv7, by go_num, by go_num, by omega, HR2, M8, HD3, fun j hj => HZ3.out j (by omega), ⟨fun a => by first | exact Nat.le_succ_of_le (HCN.out.1 a) | exact upd_cnt HCN.out.1 _ a, fun a => by first | exact Nat.le_succ_of_le (HCN.out.2 a) | exact upd_cnt HCN.out.2 _ a⟩, O8⟩, ?_⟩
          simp [intOf]; omega
      | send _ _ _ _ ha hb =>
        as_aux_lemma =>
          go_wp2_with fail
          refine (field_send u S1 sv m1 dv7 ia ib ic w7 HM3.out ha hb (by have := HCN.out.2 ia; omega)).mono ?_
          rintro e w8 ⟨rfl, ⟨sv8, m8, h8⟩, o8⟩
          have M8 := Lib.hid h8; have O8 := Lib.hid (HO3.out.trans o8)
          clear HM3 HO3 x0 x1 x2 x3 y596 KI3
          go_wp2_with fail
          refine ⟨⟨p + 1, q + 1, _, sv8, m8, dv7, by go_num, by go_num, by omega, HR2, M8, HD3, fun j hj => HZ3.out j (by omega), ⟨fun a => by first | exact Nat.le_succ_of_le (HCN.out.1 a) | exact upd_cnt HCN.out.1 _ a, fun a => by first | exact Nat.le_succ_of_le (HCN.out.2 a) | exact upd_cnt HCN.out.2 _ a⟩, O8⟩, ?_⟩
          simp [intOf]; omega
    · have HR2 := Lib.hid hr
      have hic : ic < 4294967296 := HIO.out.c
      clear hr HCASE
      cases hx with
      | jump =>
        as_aux_lemma =>
          go_wp2_with fail
          refine ⟨⟨ic, q + 1, _, sv, m1, dv7, by go_num, by go_num, by omega, HR2, HM3, HD3, fun j hj => HZ3.out j (by omega), ⟨fun a => by first | exact Nat.le_succ_of_le (HCN.out.1 a) | exact upd_cnt HCN.out.1 _ a, fun a => by first | exact Nat.le_succ_of_le (HCN.out.2 a) | exact upd_cnt HCN.out.2 _ a⟩, HO3⟩, ?_⟩
          simp [intOf]; omega
      | zero _ _ _ r _ e =>
        as_aux_lemma =>
          have HE := Lib.hid e
          clear e
          go_wp2_with fail
          refine (pop_any u S1 sv m1 dv7 0 r w7 HM3.out HE.out).mono ?_
          rintro e' w8 ⟨rfl, ⟨sv8, h8, -⟩, o8⟩
          have M8 := Lib.hid h8; have O8 := Lib.hid (HO3.out.trans o8.b)
          have z3 := only_cell o8 x3 hgi HGB.out
          clear h8 o8 x0 x1 x2 x3 HM3 HO3 KI3 y596
          go_wp2_with fail
          refine ⟨⟨ic, q + 1, _, sv8, m1, dv7, by go_num, by go_num, by omega, HR2, M8, HD3, fun j hj => HZ3.out j (by omega), ⟨fun a => by first | exact Nat.le_succ_of_le (HCN.out.1 a) | exact upd_cnt HCN.out.1 _ a, fun a => by first | exact Nat.le_succ_of_le (HCN.out.2 a) | exact upd_cnt HCN.out.2 _ a⟩, O8⟩, ?_⟩
          simp [intOf]; omega
end Go.Proofs.YtdlpgoackmgdkaaGreatDoor
