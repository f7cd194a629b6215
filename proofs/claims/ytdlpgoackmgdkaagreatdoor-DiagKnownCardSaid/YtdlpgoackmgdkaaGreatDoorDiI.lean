/- runs: frames of a log on the document's machine. -/
import Derived.Test.YtdlpgoackmgdkaaGreatDoorDiC
import Derived.Test.YtdlpgoackmgdkaaGreatDoorDiH
import Derived.Test.YtdlpgoackmgdkaaGreatDoorArFG
import Derived.Test.YtdlpgoackmgdkaaGreatDoorTake
import Derived.Laws.BytesArg
namespace Go.Proofs.YtdlpgoackmgdkaaGreatDoor
open Go.RowKit Go.Shelf
set_option linter.unusedVariables false
set_option linter.unusedSimpArgs false
set_option maxRecDepth 100000 in
theorem other29_any (ia : Option Addr) (m ic base : Nat) (size port : Int) (w : World) :
    Calls Tryz.prog 28 #[.agg #[.slice ia m ic, .int .u32 (base : Int), .int .i64 size, .int .i64 port]] w fun e w' => e = .returned (.agg #[.slice ia m ic, .int .u32 (base : Int), .int .i64 size, .int .i64 port]) ∧ Below w.heap.size w w' := by
  obtain ⟨w2, hw2⟩ : ∃ x, x = (w.alloc (.cells #[.slice ia m ic, .int .u32 (base : Int), .int .i64 size, .int .i64 port] 44)).alloc (.cells #[.slice ia m ic, .int .u32 (base : Int), .int .i64 size, .int .i64 port] 57) := ⟨_, rfl⟩
  have B2 : Hid (Below w.heap.size w w2) := by rw [hw2]; exact (alloc_below _ _).alloc (by simp) _
  have K2 : Hid (w2.heap[w.heap.size + 1]? = some (.cells #[.slice ia m ic, .int .u32 (base : Int), .int .i64 size, .int .i64 port] 57 (0, 0))) := by
    rw [hw2]
    have := heap_alloc_new (w.alloc (.cells #[.slice ia m ic, .int .u32 (base : Int), .int .i64 size, .int .i64 port] 44)) (.cells #[.slice ia m ic, .int .u32 (base : Int), .int .i64 size, .int .i64 port] 57)
    have hs : (w.alloc (.cells #[.slice ia m ic, .int .u32 (base : Int), .int .i64 size, .int .i64 port] 44)).heap.size = w.heap.size + 1 := by simp
    rw [hs] at this; exact this
  have HW2 := Lib.hid hw2
  clear hw2
  go_enter Tryz.func28, Tryz.ntmps28
  go_wp2_with fail
  rw [← HW2.out]
  have d0 := cell_row (j := 0) K2.out rfl; have d1 := cell_row (j := 1) K2.out rfl; have d2 := cell_row (j := 2) K2.out rfl; have d3 := cell_row (j := 3) K2.out rfl
  exact bodyPost_ret (v := .agg #[.slice ia m ic, .int .u32 (base : Int), .int .i64 size, .int .i64 port]) (by simp [results, Tryz.results28, go_sem, d0, d1, d2, d3]) rfl ⟨rfl, B2.out⟩
/-! ### what frames make of the data -/
def iterS (s : Nat → (Nat → Nat) → (Nat → Nat)) : Nat → (Nat → Nat)
  | 0 => fun _ => 0
  | k + 1 => s k (iterS s k)
def LG.runD (g : LG) (F : Nat → Nat → Nat) (k : Nat) : Nat → Nat := iterS (fun k d => g.frame (F k) d) k
theorem LG.runD_zero (g : LG) (F : Nat → Nat → Nat) : g.runD F 0 = fun _ => 0 := by unfold LG.runD; rw [iterS]
theorem LG.runD_succ (g : LG) (F : Nat → Nat → Nat) (k : Nat) : g.runD F (k + 1) = g.frame (F k) (g.runD F k) := by unfold LG.runD; rw [iterS]
theorem LG.frame_lt (g : LG) (f : Nat → Nat) (d : Nat → Nat) (h : ∀ j, d j < 256) : ∀ j, g.frame f d j < 256 := by unfold LG.frame; exact g.steps_lt f g.ins 0 d h
theorem LG.runD_lt (g : LG) (F : Nat → Nat → Nat) : ∀ k j, g.runD F k j < 256
  | 0, j => by rw [LG.runD_zero]; show 0 < 256; decide
  | k + 1, j => by rw [LG.runD_succ]; exact g.frame_lt _ _ (LG.runD_lt g F k) j
theorem insRow_val {f : Nat → Nat} {j : Nat} (h : j < 16) : (insRow f).toList.getD j undef = .int .u32 (f j : Int) := by
  have := insRow_get f h
  rw [List.getD_eq_getElem?_getD, Array.getElem?_toList, this]; rfl
theorem MRest.setIns {w : World} {b db dc : Nat} {S : MS} (h : MRest w b db dc S) (f : Nat → Nat) (hf : ∀ j, f j < 4294967296) :
    MRest (w.setCells b 2 (insRow f).toList) b db dc { S with ins := f } ∧ Only (fun i => i = b) w (w.setCells b 2 (insRow f).toList) := by
  obtain ⟨V, m, hm, hrow, hV⟩ := h.row
  refine ⟨⟨⟨_, m, hm, hrow.setCells 2 _, fun j hj h1 h2 => ?_⟩, h.data.same (setCells_other _ _ _ _ _ (fun e => h.ne e.symm)), h.ne, ⟨h.ok.base, h.ok.data, hf, h.ok.ports, h.ok.ages, h.ok.outs, h.ok.puts, h.ok.stack⟩, h.cap⟩,
    ⟨(setCells_os _ _ _ _).1, (setCells_os _ _ _ _).2.1, (setCells_os _ _ _ _).2.2, by rw [setCells_size]; omega, fun i hi hm => setCells_other _ _ _ _ _ (fun e => hm e)⟩⟩
  have hl : (insRow f).toList.length = 16 := rfl
  show (if 2 ≤ j ∧ j < 2 + (insRow f).toList.length then (insRow f).toList.getD (j - 2) undef else V j) = _
  rw [hl]
  by_cases hc : 2 ≤ j ∧ j < 2 + 16
  · rw [if_pos hc, insRow_val (by omega)]
    have := machV_in ⟨b, db, 0, 0, 0, dc, 0⟩ { S with ins := f } undef m (a := j - 2) (by omega)
    rw [show 2 + (j - 2) = j by omega] at this
    exact this.symm
  · rw [if_neg hc, hV j hj h1 h2]
    unfold machV
    repeat (first | (refine ite_congr rfl (fun _ => by with_reducible rfl) fun _ => ?_) | (refine ite_congr rfl (fun e => by omega) fun _ => ?_))
    with_reducible rfl
theorem make_by (n : Nat) (hn : n ≤ 10000) (w : World) : (Instr.makeSlice 39 (.int .i64 (n : Int)) (.int .i64 (n : Int))).run Tryz.prog w = .ok (.slice (some ⟨w.heap.size, 0, none⟩) n n) (w.alloc (.cells (madeCells #[.int .u8 0] (n * 1)) 5)) := by
  obtain ⟨i0, hi, hz0, hz1, hz2⟩ := info_parts (show (Tryz.prog.info? 5).map (fun i => (i.zero, i.size, i.bytes)) = some (some (.int .u8 0), 1, 1) by kernel_rfl)
  have := run_makeSlice (P := Tryz.prog) w 39 5 i0 _ Tryz.underlying39 hi hz0 .i64 .i64 n n (by omega) (Int.le_refl _) (by rw [Int.toNat_natCast, hz1]; omega) (by rw [hz2]; omega) (by omega)
  rw [Int.toNat_natCast, hz1] at this
  exact this
theorem made_row (n : Nat) (w : World) : RowAt (w.alloc (.cells (madeCells #[.int .u8 0] (n * 1)) 5)) w.heap.size 5 n (bytesV fun _ => 0) :=
  ⟨_, heap_alloc_new _ _, by rw [size_madeCells]; omega, fun i hi => by simp [madeCells, hi, Nat.mod_one, bytesV]⟩
theorem exec_build {P : Program} {o : Oper} {a : Act} (V : World) (t : TypeId) (parts : Array (Nat × Operand)) (ho : o.op = .build t parts) (arr : Array Value) (hf : P.built t (parts.map fun (i, x) => (i, a.eval x)).toList = some arr) : (execOp a.eval o).run P V = .ok (.value (.agg arr)) V := by
  unfold execOp
  simp only [ho, Sem.run_bind, Go.run_build V t _ arr hf, Result.andThen_ok]
  rfl
theorem fin_base (g : LG) (T : MS) : (g.fin T).base = T.base := by unfold LG.fin; split <;> rfl
theorem fin_dn (g : LG) (T : MS) : (g.fin T).dn = T.dn := by unfold LG.fin; split <;> rfl
theorem fin_data (g : LG) (T : MS) : (g.fin T).data = g.frame T.ins T.data := by unfold LG.fin; split <;> rfl
theorem fin_out (g : LG) (T : MS) : (g.fin T).out = T.out := by unfold LG.fin; split <;> rfl
theorem fin_sent (g : LG) (T : MS) (j : Nat) : (g.fin T).sent j = if g.port = some j then T.sent j + 1 else T.sent j := by
  unfold LG.fin
  split
  · rename_i h; rw [h, if_neg (by simp)]
  · rename_i P h
    rw [h]
    show upd T.sent P (T.sent P + 1) j = _
    unfold upd
    by_cases e : j = P
    · subst e; simp
    · rw [if_neg e, if_neg (fun x => e (Option.some.inj x).symm)]
theorem fin_puts (g : LG) (T : MS) {P : Nat} (h : g.port = some P) : (g.fin T).puts (P * 16) = wordD (g.frame T.ins T.data) 0 := by
  unfold LG.fin
  rw [h]
  exact upd_same _ _ _
theorem MRest.only {w w' : World} {b db dc : Nat} {S : MS} {M : Nat → Prop} (h : MRest w b db dc S) (ho : Only M w w') (hb : ¬ M b) (hd : ¬ M db) : MRest w' b db dc S := by
  obtain ⟨V, m, h1, h2, h3⟩ := h.row
  exact ⟨⟨V, m, h1, h2.same (ho.block _ h2.lt hb), h3⟩, h.data.same (ho.block _ h.data.lt hd), h.ne, h.ok, h.cap⟩
def S29 (base n : Nat) : MS := ⟨base, n, fun _ => 0, fun _ => 0, fun _ => 0, fun _ => 0, fun _ => 0, fun _ => 0, fun _ => 0, fun _ => 0, []⟩
theorem S29_ok {base n : Nat} (hb : base < 4294967296) : (S29 base n).Ok :=
  ⟨hb, fun _ => by show 0 < _; decide, fun _ => by show 0 < _; decide, fun _ => by show 0 < _; decide, fun _ => by show 0 < _; decide, fun _ => by show 0 < _; decide, fun _ => by show 0 < _; decide, fun x hx => by cases hx⟩
/-- Frames that are fed. -/
def FrAt (w : World) (a : Option Addr) (N : Nat) (F : Nat → Nat → Nat) : Prop := SliceN w a N 16 (fun i j => .int .u32 (F i j : Int))
def bytesD (n : Nat) (d : Nat → Nat) : ByteArray := bytesOf ((List.range n).map fun i => UInt8.ofNat (d i))
theorem conv_row (b n c : Nat) (d : Nat → Nat) (hd : ∀ j, d j < 256) (w : World) (h : RowAt w b 5 n (bytesV d)) : (convert 39 9 (.slice (some ⟨b, 0, none⟩) n c)).run Tryz.prog w = .ok (.string (bytesD n d)) w := by
  have hl : ((List.range n).map fun i => UInt8.ofNat (d i)).length = n := by simp
  have := run_convert_bytes_back (P := Tryz.prog) w 39 9 5 ⟨b, 0, none⟩ c ((List.range n).map fun i => UInt8.ofNat (d i)) Tryz.underlying39 Tryz.underlying5 Tryz.underlying9 (fun j hj => ?_)
  · rw [hl] at this; exact this
  · rw [hl] at hj
    rw [Lib.add_plain, Nat.zero_add, h.cell hj]
    simp [bytesV, Nat.mod_eq_of_lt (hd j)]
theorem lg_c0 {g : LG} (h : g.Ok) : 0 < (logC g).length := by
  cases hc : logC g with
  | nil =>
    exfalso
    have e := lg_code (g := g) (log_nodup g) g.ins 0 [] [] rfl
    have := congrArg List.length e
    rw [List.length_map] at this
    have h2 : (lgC g 0 ([] : List AL).length g.ins) = [] := hc
    rw [h2] at this
    have h3 := (lg_head g g.ins 0 [])
    obtain ⟨x, t, h4, _⟩ := h3
    rw [h4] at this
    simp at this
  | cons x r => simp
theorem placeC_ok {g : LG} (h : g.Ok) : ∀ y ∈ placeC g, y.ok := by
  intro y hy
  have := h.b0; have := h.sm
  unfold placeC at hy
  simp only [List.mem_cons, List.mem_nil_iff, or_false] at hy
  rcases hy with rfl | rfl | rfl | rfl | rfl | rfl <;> exact ins_ok4 (by omega)
theorem oneC_ok {g : LG} (h : g.Ok) {i n k : Nat} (hi : i < g.m) (hn : n < 16) (hk : k ≤ 1000) : ∀ y ∈ oneC g i n k, y.ok := by
  intro y hy
  have := h.b0; have := h.m16
  have h1 := h.wd (j := 1 + i) (by omega); have h2 := h.wd (j := 1 + g.m) (by omega); have h3 := h.wd (j := 2 + g.m) (by omega)
  unfold oneC at hy
  simp only [List.mem_append, List.mem_cons, List.mem_nil_iff, or_false] at hy
  rcases hy with (rfl | rfl | rfl | rfl | rfl | rfl | rfl) | hy | (rfl | rfl) | hy | (rfl | rfl | rfl | rfl | rfl | rfl | rfl | rfl | rfl | rfl | rfl)
  all_goals first
    | exact ins_ok4 (by omega)
    | exact placeC_ok h _ hy
theorem dtailC_ok {g : LG} (h : g.Ok) : ∀ y ∈ dtailC g, y.ok := by
  intro y hy
  have := h.b0
  unfold dtailC at hy
  cases hp : g.port with
  | none =>
    rw [hp] at hy
    simp only [List.mem_cons, List.nil_append, List.mem_nil_iff, or_false] at hy
    rcases hy with rfl | rfl | rfl <;> exact ins_ok4 (by omega)
  | some P =>
    have := h.port P hp
    rw [hp] at hy
    simp only [List.mem_cons, List.cons_append, List.nil_append, List.mem_nil_iff, or_false] at hy
    rcases hy with rfl | rfl | rfl | rfl | rfl | rfl | rfl <;> exact ins_ok4 (by omega)
theorem lgC_ok {g : LG} (h : g.Ok) : ∀ (l : List Nat) (i k : Nat), i + l.length ≤ g.m → k + 32 * l.length ≤ 1000 → (∀ n ∈ l, n < 16) → ∀ y ∈ lgC g i k l, y.ok
  | [], i, k, _, _, _, y, hy => by rw [lgC] at hy; exact dtailC_ok h y hy
  | n :: r, i, k, hi, hk, hn, y, hy => by
    rw [List.length_cons] at hi hk
    rw [lgC] at hy
    rcases List.mem_append.1 hy with hy | hy
    · exact oneC_ok h (by omega) (hn n (by simp)) (by omega) y hy
    · exact lgC_ok h r (i + 1) (k + 32) (by omega) (by omega) (fun x hx => hn x (by simp [hx])) y hy
theorem logC_ok {g : LG} (h : g.Ok) : ∀ y ∈ logC g, y.ok := lgC_ok h g.ins 0 0 (by unfold LG.m; omega) (by have := h.m16; unfold LG.m at this; omega) h.ins
set_option maxRecDepth 100000 in
set_option maxHeartbeats 16000000 in
theorem runs_any (l : List Int) (ia : Option Addr) (ic base : Nat) (size port : Int) (fa : Option Addr) (N fc : Nat) (F : Nat → Nat → Nat) (w : World) (hA : IlAt w ia l) (hm : l.length ≤ 9223372036854775807) (hb0 : base < 4294967296) (hmay : mayD l base size port = true) (hFr : FrAt w fa N F) (hF : ∀ i j, F i j < 4294967296) (hN : N ≤ 200) (hL : LibW w) :
    Calls Tryz.prog 21 #[.agg #[.slice ia l.length ic, .int .u32 (base : Int), .int .i64 size, .int .i64 port], .slice fa N fc] w fun e w' =>
      (∃ db, e = .returned (.tuple #[.slice (some ⟨db, 0, none⟩) (bytesN l.length size) (bytesN l.length size), .bool true]) ∧ RowAt w' db 5 (bytesN l.length size) (bytesV ((lgOf l base size port).runD F N)) ∧ w.heap.size ≤ db) ∧ Below w.heap.size w w' := by
  have HBD := Lib.hid (fun (W : World) (hW : Below w.heap.size w W) => dbuild_ok l ia ic base size port W (hA.below hW) hm hb0 hmay (hL.below hW))
  have HBY := Lib.hid (fun (W : World) (hW : Below w.heap.size w W) => by have := dbytes_any l ia ic base size port W (hA.below hW) hm hb0; rw [hmay] at this; exact this)
  obtain ⟨hG, hsz, hins, hp1, hp2, hbn⟩ := mayD_ok hmay
  obtain ⟨s, hs⟩ : ∃ s, s = size.toNat := ⟨_, rfl⟩
  rw [← hs] at hsz
  subst hsz
  obtain ⟨n, hn⟩ : ∃ n, n = bytesN l.length (s : Int) := ⟨_, rfl⟩
  have hbr : bytesR true l.length (s : Int) = (n : Int) := by rw [hn]; rfl
  rw [hbr] at HBY
  have HFR0 := Lib.hid (fun (b c : Nat) (d f : Nat → Nat) (W : World) (hW : IlAt W ia l) (hab : ∀ g o, ia = some ⟨g, o, none⟩ → g ≠ b) (hR : RowAt W b 5 n (bytesV d)) (hd : ∀ j, d j < 256) (hf : ∀ j, f j < 4294967296) => rframe_any l ia ic base (s : Int) port b n c d f W hW hab hmay hR hn hd hf)
  obtain ⟨G, hGe⟩ : ∃ G, G = lgOf l base (s : Int) port := ⟨_, rfl⟩
  have hgb : G.base = base := by rw [hGe]; rfl
  have hgm : G.m = l.length := by rw [hGe]; unfold lgOf LG.m; simp
  have HGM := Lib.hid hgm
  have hgp : G.port = if port < 0 then none else some port.toNat := by rw [hGe]; rfl
  rw [← hGe] at hG hbn HBD HFR0 ⊢
  rw [← hn] at hbn ⊢
  have HG := Lib.hid hG; have HA := Lib.hid hA; have HF := Lib.hid hF; have HFRA := Lib.hid hFr
  have HGP := Lib.hid hgp; have HGBa := Lib.hid hgb; have HGBy := Lib.hid hbn
  have hn1 : 1 ≤ n := by rw [hn]; unfold bytesN; omega
  have hn2 : n ≤ 10000 := by
    have h1 := hG.m16; have h2 := hG.sm
    rw [← hbn]; unfold LG.bytes; omega
  have hnb : base + n ≤ 4294967296 := by have := hG.fits; rw [hbn, hgb] at this; exact this
  obtain ⟨code, hcode⟩ : ∃ code, code = logC G := ⟨_, rfl⟩
  rw [← hcode] at HBD
  have hcl : code.length ≤ 16384 := by rw [hcode]; have := log_lenC hG; omega
  have hc0 : 0 < code.length := by rw [hcode]; exact lg_c0 hG
  have HRUN : Hid (∀ S : MS, S.base = base → S.dn = n → S.stack = [] → Run code 0 S (G.fin S)) := fun S h1 h2 h3 => by rw [hcode]; exact log_run hG (by rw [h1, hgb]) (by rw [h2, hbn]) h3
  have HCOK : Hid (∀ i, i < code.length → (code.getD i noIns).ok) := fun i hi => by
    rw [List.getD_eq_getElem?_getD, List.getElem?_eq_getElem hi]
    exact logC_ok hG code[i] (by rw [← hcode]; exact List.getElem_mem hi)
  obtain ⟨m, hmm⟩ : ∃ m, m = l.length := ⟨_, rfl⟩
  rw [← hmm] at HBD HBY HFR0 ⊢
  have HM := Lib.hid hmm
  obtain ⟨w1, hw1⟩ : ∃ x, x = w.alloc (.cells #[.slice ia m ic, .int .u32 (base : Int), .int .i64 (s : Int), .int .i64 port] 44) := ⟨_, rfl⟩
  have B2 : Hid (Below w.heap.size w w1) := by rw [hw1]; exact alloc_below _ _
  have K2 : Hid (w1.heap[w.heap.size]? = some (.cells #[.slice ia m ic, .int .u32 (base : Int), .int .i64 (s : Int), .int .i64 port] 44 (0, 0))) := by rw [hw1]; exact heap_alloc_new _ _
  have HW1 := Lib.hid hw1
  obtain ⟨g, hg⟩ : ∃ g, g = w.heap.size := ⟨_, rfl⟩
  rw [← hg] at K2
  have HGx := Lib.hid hg
  clear hmm hw1 hg hcode hG hA hF hFr hL hgp hgb hgm hbn hGe hbr hn hmay hs hins hm
  go_enter Tryz.func21, Tryz.ntmps21
  go_upto_region 1 with fail
  rw [← HW1.out, ← HGx.out]
  clear HW1
  have q0 : w1.cell? ⟨g, 0, none⟩ = some (.slice ia m ic) := cell_row (j := 0) K2.out rfl
  have q1 : w1.cell? ⟨g, 1, none⟩ = some (.int .u32 (base : Int)) := cell_row (j := 1) K2.out rfl
  have q2 : w1.cell? ⟨g, 2, none⟩ = some (.int .i64 (s : Int)) := cell_row (j := 2) K2.out rfl
  have q3 : w1.cell? ⟨g, 3, none⟩ = some (.int .i64 port) := cell_row (j := 3) K2.out rfl
  have lg : g < (w1).heap.size := heap_lt K2.out
  go_wp2_with fail
  refine (HBD.out _ B2.out).mono ?_
  rintro e w2 ⟨⟨v2, rfl, ho2⟩, hb2⟩
  obtain ⟨ca, cc, rfl, hcc1, hcc2, hIA⟩ := ins_of_own ho2
  have HIA := Lib.hid hIA
  have K2 := Lib.hid (kept K2.out hb2)
  have B2 : Hid (Below w.heap.size w w2) := B2.out.trans (hb2.mono B2.out.size)
  clear hb2 ho2 hIA HBD q0 q1 q2 q3 lg
  unfold maxLen at hcc2
  have q0 : w2.cell? ⟨g, 0, none⟩ = some (.slice ia m ic) := cell_row (j := 0) K2.out rfl
  have q1 : w2.cell? ⟨g, 1, none⟩ = some (.int .u32 (base : Int)) := cell_row (j := 1) K2.out rfl
  have q2 : w2.cell? ⟨g, 2, none⟩ = some (.int .i64 (s : Int)) := cell_row (j := 2) K2.out rfl
  have q3 : w2.cell? ⟨g, 3, none⟩ = some (.int .i64 port) := cell_row (j := 3) K2.out rfl
  have lg : g < (w2).heap.size := heap_lt K2.out
  go_wp2_with fail
  refine (HBY.out _ B2.out).mono ?_
  rintro e w3 ⟨rfl, hb3⟩
  have K2 := Lib.hid (kept K2.out hb3)
  have HIA := Lib.hid (HIA.out.below hb3)
  have B2 : Hid (Below w.heap.size w w3) := B2.out.trans (hb3.mono B2.out.size)
  clear hb3 HBY q0 q1 q2 q3 lg
  have t1 : decide ((n : Int) < 0) = false := decide_eq_false (by omega)
  have t2 : decide ((10000 : Int) < (n : Int)) = false := decide_eq_false (by omega)
  go_upto_region 5 with fail
  clear t1 t2
  have hmk := make_by n hn2
  obtain ⟨db, hdb⟩ : ∃ x, x = w3.heap.size := ⟨_, rfl⟩
  have HDB := Lib.hid hdb
  clear hdb
  have KS : Hid (∀ V : World, V.cell? ⟨g, 1, none⟩ = some (.int .u32 (base : Int)) → V.cell? ⟨g, 1, none⟩ = some (.int .u32 (base : Int))) := fun _ h => h
  refine wp_region_held (S := fun V => V.cell? ⟨g, 1, none⟩ = some (.int .u32 (base : Int))) (by kernel_rfl) ?_
  have hS0 : (fun V : World => V.cell? ⟨g, 1, none⟩ = some (.int .u32 (base : Int))) { w3 with drawn := w3.drawn + 1 } := cell_row (j := 1) K2.out rfl
  refine wpAnyH_take (i := 0) (v := ?_) rfl (by kernel_rfl) (by kernel_rfl) (by kernel_rfl) (fun _ _ _ h => h) (Or.inl ⟨by kernel_rfl, ?_⟩) (by assumption) ?_
  rotate_left
  · intro V hV; have k := KS.out V hV; clear hV; go_simp; try (with_reducible rfl)
  try simp only [Act.put, List.getElem_toArray, List.getElem_cons_succ, List.getElem_cons_zero, List.setIfInBounds_toArray, List.set_cons_zero, List.set_cons_succ]
  refine wpAnyH_take (i := 1) (v := ?_) rfl (by kernel_rfl) (by kernel_rfl) (by kernel_rfl) (fun _ _ _ h => h) (Or.inl ⟨by kernel_rfl, ?_⟩) (by assumption) ?_
  rotate_left
  · intro V hV; have k := KS.out V hV; clear hV; go_simp; try (with_reducible rfl)
  try simp only [Act.put, List.getElem_toArray, List.getElem_cons_succ, List.getElem_cons_zero, List.setIfInBounds_toArray, List.set_cons_zero, List.set_cons_succ]
  refine wpAnyH_take (i := 2) (v := ?_) rfl (by kernel_rfl) (by kernel_rfl) (by kernel_rfl) (fun _ _ _ h => h) (Or.inl ⟨by kernel_rfl, ?_⟩) (by assumption) ?_
  rotate_left
  · intro V hV; have k := KS.out V hV; clear hV; go_simp; try (with_reducible rfl)
  try simp only [Act.put, List.getElem_toArray, List.getElem_cons_succ, List.getElem_cons_zero, List.setIfInBounds_toArray, List.set_cons_zero, List.set_cons_succ]
  refine wpAnyH_ready (rs := [3]) (by kernel_rfl) (by simp) ?_
  refine AllReadyH.cons rfl (fun K hK => ?_) AllReadyH.nil
  go_simp
  rw [← HDB.out]
  obtain ⟨w4, hw4⟩ : ∃ x, x = (w3.alloc (.cells (madeCells #[.int .u8 0] n) 5)).drew := ⟨_, rfl⟩
  have b4 : Below w3.heap.size w3 w4 := by rw [hw4]; exact (alloc_below _ _).drew
  have D4 : Hid (RowAt w4 db 5 n (bytesV fun _ => 0)) := by
    have := made_row n w3
    rw [Nat.mul_one] at this
    show RowAt _ _ _ _ _
    rw [hw4, HDB.out]; exact this
  have hs4 : Hid (w4.heap.size = db + 1) := by rw [hw4, HDB.out]; show ((w3.alloc _).heap.size = _); simp
  have K4 := Lib.hid (kept K2.out b4)
  have I4 := Lib.hid (HIA.out.below b4)
  have I4B : Hid (InsAt w3 ca code) := HIA.out
  have B4 : Hid (Below w.heap.size w w4) := B2.out.trans (b4.mono B2.out.size)
  have hgd : g < db := by rw [HDB.out]; exact heap_lt K2.out
  rw [← hw4]
  clear hw4 b4 hS0 K2 HIA B2
  have hS1 : (fun V : World => V.cell? ⟨g, 1, none⟩ = some (.int .u32 (base : Int))) w4 := cell_row (j := 1) K4.out rfl
  refine hK.out _ _ hS1 (fun _ => ?_)
  clear hK K
  try simp only [Act.put, List.getElem_toArray, List.getElem_cons_succ, List.getElem_cons_zero, List.setIfInBounds_toArray, List.set_cons_zero, List.set_cons_succ]
  obtain ⟨arr, harr⟩ : ∃ x, x = newL base db n n := ⟨_, rfl⟩
  have hsz : arr.size = 598 := by rw [harr, newL_size]
  have HARR := Lib.hid harr
  clear harr
  refine wpAnyH_take (i := 4) (v := .agg arr) rfl (by kernel_rfl) (by kernel_rfl) (by kernel_rfl) (fun _ _ _ h => h) (Or.inl ⟨by kernel_rfl, fun V hV => exec_build V 99 _ rfl arr (by rw [HARR.out]; kernel_rfl)⟩) (by assumption) ?_
  try simp only [Act.put, List.getElem_toArray, List.getElem_cons_succ, List.getElem_cons_zero, List.setIfInBounds_toArray, List.set_cons_zero, List.set_cons_succ]
  refine wpAnyH_ready (rs := [5]) (by kernel_rfl) (by simp) ?_
  refine AllReadyH.cons rfl (fun K hK => ?_) AllReadyH.nil
  go_simp
  rw [hs4.out]
  obtain ⟨w5, hw5⟩ : ∃ x, x = w4.alloc (.cells arr 99) := ⟨_, rfl⟩
  have b5 : Below w4.heap.size w4 w5 := by rw [hw5]; exact alloc_below _ _
  have K5 := Lib.hid (kept K4.out b5)
  have hS2 : (fun V : World => V.cell? ⟨g, 1, none⟩ = some (.int .u32 (base : Int))) w5 := cell_row (j := 1) K5.out rfl
  have B5 : Hid (Below w.heap.size w w5) := B4.out.trans (b5.mono B4.out.size)
  have hs5 : Hid (w5.heap.size = db + 1 + 1) := by rw [hw5]; show _ = _; rw [← hs4.out]; simp
  obtain ⟨b, hb⟩ : ∃ b, b = db + 1 := ⟨_, rfl⟩
  have M5 : Hid (MRest w5 b db n (S29 base n)) := by
    refine ⟨⟨newV base db n n, 0, by decide, ⟨arr, by rw [hw5, hb, ← hs4.out]; exact heap_alloc_new _ _, Nat.le_of_eq hsz.symm, fun i hi => by rw [HARR.out]; exact newL_get hi⟩, fun j hj h1 h2 => ?_⟩, D4.out.same (b5.block _ D4.out.lt), by omega, S29_ok hb0, Nat.le_refl _, by unfold maxLen; omega⟩
    unfold newV
    rw [if_neg h1, if_neg h2]
    rfl
  have I5 := Lib.hid (I4.out.below b5)
  rw [← hw5, ← hb]
  rw [← hb] at hs5
  have HBB := Lib.hid hb
  clear hw5 b5 hS1 K4 I4 B4 D4 hs4 HARR hsz
  refine hK.out _ _ hS2 (fun _ => ?_)
  clear hK K
  try simp only [Act.put, List.getElem_toArray, List.getElem_cons_succ, List.getElem_cons_zero, List.setIfInBounds_toArray, List.set_cons_zero, List.set_cons_succ]
  refine wpAnyH_take (i := 6) (v := ?_) rfl (by kernel_rfl) (by kernel_rfl) (by kernel_rfl) (fun _ _ _ h => h) (Or.inl ⟨by kernel_rfl, ?_⟩) (by assumption) ?_
  rotate_left
  · intro V hV; have k := KS.out V hV; clear hV; go_simp; try (with_reducible rfl)
  try simp only [Act.put, List.getElem_toArray, List.getElem_cons_succ, List.getElem_cons_zero, List.setIfInBounds_toArray, List.set_cons_zero, List.set_cons_succ]
  refine wpAnyH_done (by kernel_rfl) ?_ _
  clear hS2 KS hb
  have hmk5 := make_by n hn2 w5
  rw [hs5.out] at hmk5
  rw [← HBB.out]
  obtain ⟨wb, hwb⟩ : ∃ x, x = b + 1 := ⟨_, rfl⟩
  rw [← hwb] at hs5 hmk5
  have HWB := Lib.hid hwb
  obtain ⟨w6, hw6⟩ : ∃ x, x = w5.alloc (.cells (madeCells #[.int .u8 0] (n * 1)) 5) := ⟨_, rfl⟩
  have W6 : Hid (RowAt w6 wb 5 n (bytesV (G.runD F 0))) := by
    have := made_row n w5
    show RowAt _ _ _ _ _
    rw [LG.runD_zero, hw6, ← hs5.out]; exact this
  have b6 : Below w5.heap.size w5 w6 := by rw [hw6]; exact alloc_below _ _
  have hs6 : Hid (w6.heap.size = wb + 1) := by rw [hw6]; show _ = _; rw [← hs5.out]; simp
  have M6 := Lib.hid (M5.out.below b6)
  have I6 := Lib.hid (I5.out.below b6)
  have K6 := Lib.hid (kept K5.out b6)
  have B6 : Hid (Below w.heap.size w w6) := B5.out.trans (b6.mono B5.out.size)
  rw [← hw6] at hmk5
  have HWD : Hid (w.heap.size ≤ db ∧ g < db ∧ db < b ∧ b < wb) := ⟨by rw [HGx.out] at hgd; omega, hgd, by have := HBB.out; omega, by have := HWB.out; omega⟩
  have HCA : Hid (∀ g' o, ca = some ⟨g', o, none⟩ → g' ≠ b ∧ g' ≠ db ∧ g' ≠ wb) := fun g' o e => by
    rcases I4B.out with h0 | ⟨g2, o2, e2, hlt, _⟩
    · rw [h0] at hc0; exact absurd hc0 (by decide)
    · rw [e] at e2
      have : g' = g2 := by cases e2; rfl
      rw [← HDB.out] at hlt
      have h1 := HBB.out; have h2 := HWB.out
      omega
  have HBO : Hid (∀ W, Only (fun i => i = b ∨ i = db ∨ i = wb) w6 W → Below w.heap.size w W) := fun W OM => ⟨OM.os.trans B6.out.os, OM.tape.trans B6.out.tape, OM.output.trans B6.out.output, Nat.le_trans B6.out.size OM.size, fun i hi => (OM.block i (Nat.lt_of_lt_of_le hi B6.out.size) (fun e => by have := HWD.out; omega)).trans (B6.out.block i hi)⟩
  have HAB : Hid (∀ g' o, ia = some ⟨g', o, none⟩ → g' ≠ wb) := fun g' o e => by
    rcases HA.out with h0 | ⟨g2, o2, e2, hlt, _⟩
    · have := HG.out.m1; have h2 := HGM.out; omega
    · rw [e] at e2
      have : g' = g2 := by cases e2; rfl
      have := HWD.out
      omega
  clear hw6 b6 hwb M5 I5 K5 B5 hmk hgd
  go_upto_region 7 with fail
  clear hmk5
  go_wp2_with fail
  go_loopw [45] (fun i wr => ∃ k : Nat, k ≤ N ∧ i = .int .i64 (k : Int) ∧ ∃ S : MS, Hid (MRest wr b db n S) ∧ Hid (S.base = base ∧ S.dn = n ∧ S.data = G.runD F k) ∧ Hid (RowAt wr wb 5 n (bytesV (G.runD F k))) ∧ Hid (Only (fun i => i = b ∨ i = db ∨ i = wb) w6 wr)) (fun i _ => N - (intOf i).toNat)
  case atStart => exact ⟨0, Nat.zero_le _, rfl, S29 base n, M6, ⟨rfl, rfl, by rw [LG.runD_zero]; rfl⟩, W6, Only.refl _ _⟩
  case round =>
    clear M6 W6
    obtain ⟨k, hk, rfl, S, MR, HSS, RW, OM⟩ := hrel
    have hwd := HWD.out
    have hb6s := hs6.out
    have BW : Hid (Below w.heap.size w wr) := ⟨OM.out.os.trans B6.out.os, OM.out.tape.trans B6.out.tape, OM.out.output.trans B6.out.output, Nat.le_trans B6.out.size OM.out.size, fun i hi => (OM.out.block i (Nat.lt_of_lt_of_le hi B6.out.size) (fun e => by omega)).trans (B6.out.block i hi)⟩
    have K7 : Hid (wr.heap[g]? = some (.cells #[.slice ia m ic, .int .u32 (base : Int), .int .i64 (s : Int), .int .i64 port] 44 (0, 0))) := (OM.out.block g (heap_lt K6.out) (fun e => by omega)).trans K6.out
    rcases Nat.lt_or_ge k N with hk2 | hk2
    case inr =>
      obtain rfl : k = N := by omega
      have t2 : decide ((k : Int) < (k : Int)) = false := by simp
      have HD := MR.out.data
      rw [HSS.out.2.1, HSS.out.2.2] at HD
      have HDT := Lib.hid HD
      have hm1 := MR.out.row
      obtain ⟨V, mm, _, hrow, hV⟩ := hm1
      have c1 : wr.cell? ⟨b, 1, none⟩ = some (.slice (some ⟨db, 0, none⟩) n n) := by
        have h1 := hrow.cell (i := 1) (by omega)
        rw [hV 1 (by omega) (by omega) (by omega)] at h1
        rw [show machV ⟨b, db, 0, 0, 0, n, 0⟩ S undef mm 1 = .slice (some ⟨db, 0, none⟩) S.dn n from rfl, HSS.out.2.1] at h1
        exact h1
      have lb := hrow.lt
      have hcv1 : ∀ q, (convert 39 9 (.slice (some ⟨db, 0, none⟩) n n)).run Tryz.prog (wr.drewN q) = .ok (.string (bytesD n (G.runD F k))) (wr.drewN q) := fun q => conv_row db n n _ (G.runD_lt F k) _ HDT.out
      have hcv2 : ∀ q, (convert 39 9 (.slice (some ⟨wb, 0, none⟩) n n)).run Tryz.prog (wr.drewN q) = .ok (.string (bytesD n (G.runD F k))) (wr.drewN q) := fun q => conv_row wb n n _ (G.runD_lt F k) _ RW.out
      have HDB2 : Hid (w.heap.size ≤ db) := hwd.1
      generalize bytesD n (G.runD F k) = BS at *
      have te : (BS.toList == BS.toList) = true := beq_self_eq_true _
      clear HD MR hV hwd HSS hrow
      go_wp2_with fail
      go_quiet (fail)
      go_wp2_with fail
      go_ret2
      exact ⟨⟨db, rfl, HDT.out, HDB2.out⟩, belowN BW.out _⟩
    have t2 : decide ((k : Int) < (N : Int)) = true := decide_eq_true (by omega)
    have i1 : (k : Int) < (N : Int) := by omega
    obtain ⟨fb, fo, rfl, hfb, hfc⟩ := SliceN.at HFRA.out (by omega)
    have x0 : wr.cell? ⟨fb, fo + k * 16, none⟩ = some (.int .u32 (F k 0 : Int)) := (BW.out.cell hfb).trans (hfc k (by omega) 0 (by decide))
    have x1 : wr.cell? ⟨fb, fo + k * 16 + 1, none⟩ = some (.int .u32 (F k 1 : Int)) := (BW.out.cell hfb).trans (hfc k (by omega) 1 (by decide))
    have x2 : wr.cell? ⟨fb, fo + k * 16 + 2, none⟩ = some (.int .u32 (F k 2 : Int)) := (BW.out.cell hfb).trans (hfc k (by omega) 2 (by decide))
    have x3 : wr.cell? ⟨fb, fo + k * 16 + 3, none⟩ = some (.int .u32 (F k 3 : Int)) := (BW.out.cell hfb).trans (hfc k (by omega) 3 (by decide))
    have x4 : wr.cell? ⟨fb, fo + k * 16 + 4, none⟩ = some (.int .u32 (F k 4 : Int)) := (BW.out.cell hfb).trans (hfc k (by omega) 4 (by decide))
    have x5 : wr.cell? ⟨fb, fo + k * 16 + 5, none⟩ = some (.int .u32 (F k 5 : Int)) := (BW.out.cell hfb).trans (hfc k (by omega) 5 (by decide))
    have x6 : wr.cell? ⟨fb, fo + k * 16 + 6, none⟩ = some (.int .u32 (F k 6 : Int)) := (BW.out.cell hfb).trans (hfc k (by omega) 6 (by decide))
    have x7 : wr.cell? ⟨fb, fo + k * 16 + 7, none⟩ = some (.int .u32 (F k 7 : Int)) := (BW.out.cell hfb).trans (hfc k (by omega) 7 (by decide))
    have x8 : wr.cell? ⟨fb, fo + k * 16 + 8, none⟩ = some (.int .u32 (F k 8 : Int)) := (BW.out.cell hfb).trans (hfc k (by omega) 8 (by decide))
    have x9 : wr.cell? ⟨fb, fo + k * 16 + 9, none⟩ = some (.int .u32 (F k 9 : Int)) := (BW.out.cell hfb).trans (hfc k (by omega) 9 (by decide))
    have x10 : wr.cell? ⟨fb, fo + k * 16 + 10, none⟩ = some (.int .u32 (F k 10 : Int)) := (BW.out.cell hfb).trans (hfc k (by omega) 10 (by decide))
    have x11 : wr.cell? ⟨fb, fo + k * 16 + 11, none⟩ = some (.int .u32 (F k 11 : Int)) := (BW.out.cell hfb).trans (hfc k (by omega) 11 (by decide))
    have x12 : wr.cell? ⟨fb, fo + k * 16 + 12, none⟩ = some (.int .u32 (F k 12 : Int)) := (BW.out.cell hfb).trans (hfc k (by omega) 12 (by decide))
    have x13 : wr.cell? ⟨fb, fo + k * 16 + 13, none⟩ = some (.int .u32 (F k 13 : Int)) := (BW.out.cell hfb).trans (hfc k (by omega) 13 (by decide))
    have x14 : wr.cell? ⟨fb, fo + k * 16 + 14, none⟩ = some (.int .u32 (F k 14 : Int)) := (BW.out.cell hfb).trans (hfc k (by omega) 14 (by decide))
    have x15 : wr.cell? ⟨fb, fo + k * 16 + 15, none⟩ = some (.int .u32 (F k 15 : Int)) := (BW.out.cell hfb).trans (hfc k (by omega) 15 (by decide))
    obtain ⟨w7, hw7⟩ : ∃ y, y = wr.alloc (.cells #[.int .u32 (F k 0 : Int), .int .u32 (F k 1 : Int), .int .u32 (F k 2 : Int), .int .u32 (F k 3 : Int), .int .u32 (F k 4 : Int), .int .u32 (F k 5 : Int), .int .u32 (F k 6 : Int), .int .u32 (F k 7 : Int), .int .u32 (F k 8 : Int), .int .u32 (F k 9 : Int), .int .u32 (F k 10 : Int), .int .u32 (F k 11 : Int), .int .u32 (F k 12 : Int), .int .u32 (F k 13 : Int), .int .u32 (F k 14 : Int), .int .u32 (F k 15 : Int)] 46) := ⟨_, rfl⟩
    obtain ⟨arr, harr⟩ : ∃ a, a = insRow (F k) := ⟨_, rfl⟩
    have N7 : Hid (w7.heap[wr.heap.size]? = some (.cells arr 46 (0, 0))) := by rw [hw7, harr]; exact heap_alloc_new _ _
    have b7 : Below wr.heap.size wr w7 := by rw [hw7]; exact alloc_below _ _
    have hsz : arr.size = 16 := by rw [harr]; rfl
    have HARR := Lib.hid harr
    have MR7 := Lib.hid (MR.out.below b7)
    have RW7 : Hid (RowAt w7 wb 5 n (bytesV (G.runD F k))) := RW.out.same (b7.block _ RW.out.lt)
    have O7 : Hid (Only (fun i => i = b ∨ i = db ∨ i = wb) w6 w7) := OM.out.trans (Only.of_below _ b7)
    have K8 := Lib.hid (kept K7.out b7)
    have HW7 := Lib.hid hw7
    obtain ⟨g7, hg7⟩ : ∃ x, x = wr.heap.size := ⟨_, rfl⟩
    rw [← hg7] at N7
    have HG7 : Hid (wb < g7) := by show _ < _; rw [hg7]; exact RW.out.lt
    have HG7E := Lib.hid hg7
    clear hw7 b7 harr hfc MR RW OM K7 hg7
    go_upto_region 10 with fail
    rw [← HW7.out, ← HG7E.out]
    clear HW7 x0 x1 x2 x3 x4 x5 x6 x7 x8 x9 x10 x11 x12 x13 x14 x15
    obtain ⟨V7, m7, _, hrow7, _⟩ := MR7.out.row
    have hst : (storeCells ⟨b, 2, none⟩ arr.toList).run Tryz.prog w7 = .ok () (w7.setCells b 2 arr.toList) := store_midL (P := Tryz.prog) w7 b 2 arr.toList (hrow7.there _ _ (by rw [Array.length_toList, hsz]; decide)) (fun v hv => by
      rw [HARR.out] at hv
      obtain ⟨i, hi, rfl⟩ := List.mem_iff_getElem.1 hv
      have h16 : i < 16 := hi
      have h3 : (insRow (F k)).toList[i]? = some (.int .u32 (F k i : Int)) := by rw [Array.getElem?_toList]; exact insRow_get (F k) h16
      rw [List.getElem?_eq_getElem hi] at h3
      rw [Option.some.inj h3]; rfl)
    obtain ⟨w8, hw8⟩ : ∃ y, y = w7.setCells b 2 arr.toList := ⟨_, rfl⟩
    obtain ⟨hm8, ho8⟩ := MR7.out.setIns (F k) (HF.out k)
    rw [← HARR.out, ← hw8] at hm8 ho8
    rw [← hw8] at hst
    have M8 := Lib.hid hm8
    have O8 : Hid (Only (fun i => i = b ∨ i = db ∨ i = wb) w6 w8) := O7.out.trans (ho8.mono fun i _ h => .inl h)
    have N8 : Hid (w8.heap[g7]? = some (.cells arr 46 (0, 0))) := (ho8.block g7 (heap_lt N7.out) (by have := HG7.out; have := HWD.out; omega)).trans N7.out
    have RW8 : Hid (RowAt w8 wb 5 n (bytesV (G.runD F k))) := RW7.out.same (ho8.block wb RW7.out.lt (by have := HWD.out; omega))
    have K9 : Hid (w8.heap[g]? = some (.cells #[.slice ia m ic, .int .u32 (base : Int), .int .i64 (s : Int), .int .i64 port] 44 (0, 0))) := (ho8.block g (heap_lt K8.out) (by have := HWD.out; omega)).trans K8.out
    have N7x := Lib.hid N7.out
    clear hw8 hm8 ho8 hrow7 MR7 O7 N7 RW7 K8
    have HN7X := Lib.hid N7x.out
    clear N7x
    iterate 4 go_step
    refine wpList_load_row rfl 46 (.tmp 12) rfl g7 rfl 46 arr (0, 0) _ HN7X.out Tryz.underlying46 rfl (by rw [hsz]; kernel_rfl) ?_
    go_upto_region 11 with fail
    clear hst HN7X
    have HR := Lib.hid (HRUN.out ({ S with ins := F k } : MS).begin HSS.out.1 HSS.out.2.1 rfl)
    have HFR := Lib.hid (frame_any code ca cc b db n { S with ins := F k } _ w8 M8.out (insAt_only I6.out O8.out (fun g' o e h => by have := HCA.out g' o e; omega)) (fun g' o e => ⟨(HCA.out g' o e).1, (HCA.out g' o e).2.1⟩) hc0 hcl HCOK.out HR.out)
    obtain ⟨T, hT⟩ : ∃ T, T = G.fin ({ S with ins := F k } : MS).begin := ⟨_, rfl⟩
    rw [← hT] at HFR
    have HTB : Hid (T.base = base ∧ T.dn = n ∧ T.data = G.runD F (k + 1)) := ⟨by rw [hT, fin_base]; exact HSS.out.1, by rw [hT, fin_dn]; exact HSS.out.2.1, by rw [hT, fin_data, LG.runD_succ]; show G.frame (F k) S.data = _; rw [HSS.out.2.2]⟩
    have HTS : Hid (∀ j, T.sent j = if G.port = some j then 1 else 0) := fun j => by rw [hT, fin_sent]; rfl
    have HTO : Hid (∀ j, T.out j = 0) := fun j => by rw [hT, fin_out]; rfl
    have HTP : Hid (∀ P, G.port = some P → T.puts (P * 16) = wordD (G.runD F (k + 1)) 0) := fun P hP => by
      rw [hT, fin_puts G _ hP, LG.runD_succ]; show wordD (G.frame (F k) S.data) 0 = _; rw [HSS.out.2.2]
    obtain ⟨cs, hcs⟩ : ∃ cs, cs = arr.toList := ⟨_, rfl⟩
    have N8 : Hid (w8.heap[g7]? = some (.cells cs.toArray 46 (0, 0))) := by rw [hcs, Array.toArray_toList]; exact N8.out
    have hu16 := Tryz.underlying46
    have hs16 : (Tryz.prog.info? 46).map (·.size) = some cs.length := by rw [hcs, Array.length_toList, hsz]; kernel_rfl
    have HRG : Hid (∀ V : World, V.heap[g7]? = some (.cells cs.toArray 46 (0, 0)) → V.rangeAt g7 0 cs) := fun V h j v hj => by
      rw [Nat.zero_add]; exact cell_row h (by rw [List.getElem?_toArray]; exact hj)
    have HCS : Hid (cs.toArray = insRow (F k)) := by show _ = _; rw [hcs, Array.toArray_toList, HARR.out]
    have HU16 := Lib.hid hu16; have HS16 := Lib.hid hs16
    clear hu16 hs16 hcs
    have HFX : Hid (∀ W : World, IlAt W ia l → RowAt W wb 5 n (bytesV (G.runD F k)) → Calls Tryz.prog 54 #[.agg #[.slice ia m ic, .int .u32 (base : Int), .int .i64 (s : Int), .int .i64 port], .slice (some ⟨wb, 0, none⟩) n n, .agg cs.toArray] W fun e w' => e = .returned (.int .u32 (wordD (G.runD F (k + 1)) 0 : Int)) ∧ RowAt w' wb 5 n (bytesV (G.runD F (k + 1))) ∧ Only (fun i => i = wb) W w') := fun W hW hR => by
      have := HFR0.out wb n (G.runD F k) (F k) W hW HAB.out hR (G.runD_lt F k) (HF.out k)
      rw [← LG.runD_succ, ← HCS.out] at this
      exact this
    have hcnt := word_lt _ (G.runD_lt F (k + 1)) 0
    generalize wordD (G.runD F (k + 1)) 0 = cnt at *
    clear hT HR HARR hsz M8 HSS hb6s hwd BW
    go_wp2_with fail
    refine HFR.out.mono ?_
    rintro e w9 ⟨rfl, ⟨u, sv, mm, dv, M9, hu1, hu2, hu3, hu4, hdv⟩, ho9⟩
    have hm16 := M9.most
    have hrow := M9.mb.row
    rw [hu1] at hrow
    have c595 : w9.cell? ⟨b, 595, none⟩ = some (.int .i64 (mm : Int)) := hrow.cell (i := 595) (by omega)
    have lb9 := hrow.lt
    have R9 := Lib.hid M9.rest
    rw [hu1, hu2, hu3] at R9
    have N9 : Hid (w9.heap[g7]? = some (.cells cs.toArray 46 (0, 0))) := (ho9.block g7 (heap_lt N8.out) (by have := HG7.out; have := HWD.out; omega)).trans N8.out
    have RW9 : Hid (RowAt w9 wb 5 n (bytesV (G.runD F k))) := RW8.out.same (ho9.block wb RW8.out.lt (by have := HWD.out; omega))
    have K10 : Hid (w9.heap[g]? = some (.cells #[.slice ia m ic, .int .u32 (base : Int), .int .i64 (s : Int), .int .i64 port] 44 (0, 0))) := (ho9.block g (heap_lt K9.out) (by have := HWD.out; omega)).trans K9.out
    have OQ : Hid (Only (fun i => i = b ∨ i = db ∨ i = wb) w6 w9) := O8.out.trans (ho9.mono fun i _ h => by rcases h with h | h; (· exact .inl h); (· exact .inr (.inl h)))
    have BQ := Lib.hid (HBO.out _ OQ.out)
    have t3 : decide ((16 : Int) < (mm : Int)) = false := decide_eq_false (by omega)
    clear HFR M9 hu1 hu2 hu3 hu4 hdv ho9 hrow N8 RW8 K9 O8
    go_upto_region 13 with fail
    clear c595 lb9 t3
    have R9 : Hid (MRest w9.drew b db n T) := R9.out.below (Below.refl _ _).drew
    have N9 : Hid (w9.drew.heap[g7]? = some (.cells cs.toArray 46 (0, 0))) := N9.out
    have RW9 : Hid (RowAt w9.drew wb 5 n (bytesV (G.runD F k))) := RW9.out
    have K10 : Hid (w9.drew.heap[g]? = some (.cells #[.slice ia m ic, .int .u32 (base : Int), .int .i64 (s : Int), .int .i64 port] 44 (0, 0))) := K10.out
    have OQ : Hid (Only (fun i => i = b ∨ i = db ∨ i = wb) w6 w9.drew) := OQ.out.trans (Only.of_below _ (Below.refl _ _).drew)
    have BQ : Hid (Below w.heap.size w w9.drew) := HBO.out _ OQ.out
    have hu16 := HU16.out
    have hs16 := HS16.out
    go_region_held3 (fun V => (V.cell? ⟨g, 0, none⟩ = some (.slice ia m ic) ∧ V.cell? ⟨g, 1, none⟩ = some (.int .u32 (base : Int)) ∧ V.cell? ⟨g, 2, none⟩ = some (.int .i64 (s : Int)) ∧ V.cell? ⟨g, 3, none⟩ = some (.int .i64 port)) ∧ V.rangeAt g7 0 cs ∧ g < V.heap.size ∧ g7 < V.heap.size)
      (exact ⟨⟨cell_row (j := 0) K10.out rfl, cell_row (j := 1) K10.out rfl, cell_row (j := 2) K10.out rfl, cell_row (j := 3) K10.out rfl⟩, HRG.out _ N9.out, heap_lt K10.out, heap_lt N9.out⟩) (first
      | (go_at_call 28; (with_reducible refine (other29_any ia m ic base (s : Int) port _).mono ?_); rintro e wq ⟨rfl, hb⟩; have K10 := Lib.hid (kept K10.out hb); have N9 := Lib.hid (kept N9.out hb); have RW9 : Hid (RowAt wq wb 5 n (bytesV (G.runD F k))) := RW9.out.same (hb.block _ RW9.out.lt); have R9 := Lib.hid (R9.out.below hb); have OQ : Hid (Only (fun i => i = b ∨ i = db ∨ i = wb) w6 wq) := OQ.out.trans (Only.of_below _ hb); have BQ := Lib.hid (HBO.out _ OQ.out); clear hb)
      | (go_at_call 54; (with_reducible refine (HFX.out _ (HA.out.below BQ.out) RW9.out).mono ?_); rintro e wq ⟨rfl, hr, ho⟩; have K10 : Hid (wq.heap[g]? = some (.cells #[.slice ia m ic, .int .u32 (base : Int), .int .i64 (s : Int), .int .i64 port] 44 (0, 0))) := (ho.block g (heap_lt K10.out) (by have := HWD.out; omega)).trans K10.out; have N9 : Hid (wq.heap[g7]? = some (.cells cs.toArray 46 (0, 0))) := (ho.block g7 (heap_lt N9.out) (by have := HG7.out; omega)).trans N9.out; have R9 := Lib.hid (R9.out.only ho (by have := HWD.out; omega) (by have := HWD.out; omega)); have OQ : Hid (Only (fun i => i = b ∨ i = db ∨ i = wb) w6 wq) := OQ.out.trans (ho.mono fun i _ h => .inr (.inr h)); have RW9 := Lib.hid hr; clear hr ho))
    clear hu16 hs16 HU16 HS16 HRG HCS N9 HFX
    obtain ⟨V9, m9, _, hrow9, hV9⟩ := R9.out.row
    have lbq := hrow9.lt
    obtain ⟨sf, hsf⟩ : ∃ sf : Nat → Nat, sf = fun j => if G.port = some j then 1 else 0 := ⟨_, rfl⟩
    obtain ⟨zf, hzf⟩ : ∃ zf : Nat → Nat, zf = fun _ => 0 := ⟨_, rfl⟩
    have HSF : Hid (∀ j, sf j = if G.port = some j then 1 else 0) := fun j => by rw [hsf]
    have HZF : Hid (∀ j, zf j = 0) := fun j => by rw [hzf]
    have HSC : Hid (∀ j, j < 16 → wq.cell? ⟨b, 578 + j, none⟩ = some (.int .i64 (sf j : Int))) := fun j hj => by
      rw [hrow9.cell (by omega), hV9 _ (by omega) (by omega) (by omega), machV_sent _ _ _ _ hj, HTS.out j, hsf]
    have HOC : Hid (∀ j, j < 16 → wq.cell? ⟨b, 306 + j, none⟩ = some (.int .i64 (zf j : Int))) := fun j hj => by
      rw [hrow9.cell (by omega), hV9 _ (by omega) (by omega) (by omega), machV_out _ _ _ _ hj, HTO.out j, hzf]
    have HPC : Hid (∀ P, P < 16 → G.port = some P → wq.cell? ⟨b, 322 + P * 16, none⟩ = some (.int .u32 (cnt : Int))) := fun P h1 h2 => by
      rw [hrow9.cell (by omega), hV9 _ (by omega) (by omega) (by omega), machV_puts _ _ _ _ (show P * 16 < 256 by omega), HTP.out P h2]
    have s0 : wq.cell? ⟨b, 578, none⟩ = some (.int .i64 (sf 0 : Int)) := HSC.out 0 (by omega)
    have s1 : wq.cell? ⟨b, 579, none⟩ = some (.int .i64 (sf 1 : Int)) := HSC.out 1 (by omega)
    have s2 : wq.cell? ⟨b, 580, none⟩ = some (.int .i64 (sf 2 : Int)) := HSC.out 2 (by omega)
    have s3 : wq.cell? ⟨b, 581, none⟩ = some (.int .i64 (sf 3 : Int)) := HSC.out 3 (by omega)
    have s4 : wq.cell? ⟨b, 582, none⟩ = some (.int .i64 (sf 4 : Int)) := HSC.out 4 (by omega)
    have s5 : wq.cell? ⟨b, 583, none⟩ = some (.int .i64 (sf 5 : Int)) := HSC.out 5 (by omega)
    have s6 : wq.cell? ⟨b, 584, none⟩ = some (.int .i64 (sf 6 : Int)) := HSC.out 6 (by omega)
    have s7 : wq.cell? ⟨b, 585, none⟩ = some (.int .i64 (sf 7 : Int)) := HSC.out 7 (by omega)
    have s8 : wq.cell? ⟨b, 586, none⟩ = some (.int .i64 (sf 8 : Int)) := HSC.out 8 (by omega)
    have s9 : wq.cell? ⟨b, 587, none⟩ = some (.int .i64 (sf 9 : Int)) := HSC.out 9 (by omega)
    have s10 : wq.cell? ⟨b, 588, none⟩ = some (.int .i64 (sf 10 : Int)) := HSC.out 10 (by omega)
    have s11 : wq.cell? ⟨b, 589, none⟩ = some (.int .i64 (sf 11 : Int)) := HSC.out 11 (by omega)
    have s12 : wq.cell? ⟨b, 590, none⟩ = some (.int .i64 (sf 12 : Int)) := HSC.out 12 (by omega)
    have s13 : wq.cell? ⟨b, 591, none⟩ = some (.int .i64 (sf 13 : Int)) := HSC.out 13 (by omega)
    have s14 : wq.cell? ⟨b, 592, none⟩ = some (.int .i64 (sf 14 : Int)) := HSC.out 14 (by omega)
    have s15 : wq.cell? ⟨b, 593, none⟩ = some (.int .i64 (sf 15 : Int)) := HSC.out 15 (by omega)
    clear hrow9 hV9 hsf hzf HTS HTO HTP
    go_wp2_with fail
    clear s0 s1 s2 s3 s4 s5 s6 s7 s8 s9 s10 s11 s12 s13 s14 s15
    go_loopw [73] (fun i wr2 => ∃ j : Nat, j ≤ 16 ∧ i = .int .i64 (j : Int) ∧ wr2 = wq) (fun i _ => 16 - (intOf i).toNat)
    case atStart => exact ⟨0, by omega, rfl, rfl⟩
    case round =>
      obtain ⟨j, hj, rfl, hw⟩ := hrel
      have hw2 : wr = wq := hw
      subst hw2
      have g3 : wr.cell? ⟨g, 3, none⟩ = some (.int .i64 port) := cell_row (j := 3) K10.out rfl
      have lgq := heap_lt K10.out
      have lbq := R9.out.data.lt
      have lbw : b < wr.heap.size := by obtain ⟨_, _, _, h, _⟩ := R9.out.row; exact h.lt
      clear lbq
      rcases Nat.lt_or_ge j 16 with hj2 | hj2
      case inl =>
        have t4 : decide ((j : Int) < 16) = true := decide_eq_true (by omega)
        have hix := index_ints sf j hj2
        by_cases hp : port < 0
        case pos =>
          have e0 : sf j = 0 := by rw [HSF.out j, HGP.out, if_pos hp]; rfl
          have t5 : ((j : Int) == port) = false := beq_eq_false_iff_ne.2 (by omega)
          rw [e0] at hix
          clear e0
          go_wp2_with fail
          refine ⟨⟨j + 1, by omega, by go_num, by first | rfl | trivial⟩, ?_⟩
          simp [intOf]; omega
        obtain ⟨P, rfl⟩ := Int.eq_ofNat_of_zero_le (show 0 ≤ port by omega)
        have hgP : G.port = some P := by rw [HGP.out, if_neg hp]; simp
        by_cases e : j = P
        · have e0 : sf j = 1 := by rw [HSF.out j, hgP, e, if_pos rfl]
          have t5 : ((j : Int) == (P : Int)) = true := beq_iff_eq.2 (by omega)
          have hpc : wr.cell? ⟨b, 322 + j * 16, none⟩ = some (.int .u32 (cnt : Int)) := by rw [e]; exact HPC.out P (by omega) hgP
          have t6 : ((cnt : Int) == (cnt : Int)) = true := beq_self_eq_true _
          have t7 : ((cnt : Int) != (cnt : Int)) = false := by rw [bne, t6]; rfl
          rw [e0] at hix
          clear e0 e hgP hp
          go_wp2_with fail
          refine ⟨⟨j + 1, by omega, by go_num, by first | rfl | trivial⟩, ?_⟩
          simp [intOf]; omega
        · have e0 : sf j = 0 := by rw [HSF.out j, hgP, if_neg (fun x => e (Option.some.inj x).symm)]
          have t5 : ((j : Int) == (P : Int)) = false := beq_eq_false_iff_ne.2 (by omega)
          rw [e0] at hix
          clear e0 e hgP hp
          go_wp2_with fail
          refine ⟨⟨j + 1, by omega, by go_num, by first | rfl | trivial⟩, ?_⟩
          simp [intOf]; omega
      obtain rfl : j = 16 := by omega
      have t4 : decide (((16 : Nat) : Int) < 16) = false := by decide
      clear g3 lgq
      have o0 : wr.cell? ⟨b, 306, none⟩ = some (.int .i64 (zf 0 : Int)) := HOC.out 0 (by omega)
      have o1 : wr.cell? ⟨b, 307, none⟩ = some (.int .i64 (zf 1 : Int)) := HOC.out 1 (by omega)
      have o2 : wr.cell? ⟨b, 308, none⟩ = some (.int .i64 (zf 2 : Int)) := HOC.out 2 (by omega)
      have o3 : wr.cell? ⟨b, 309, none⟩ = some (.int .i64 (zf 3 : Int)) := HOC.out 3 (by omega)
      have o4 : wr.cell? ⟨b, 310, none⟩ = some (.int .i64 (zf 4 : Int)) := HOC.out 4 (by omega)
      have o5 : wr.cell? ⟨b, 311, none⟩ = some (.int .i64 (zf 5 : Int)) := HOC.out 5 (by omega)
      have o6 : wr.cell? ⟨b, 312, none⟩ = some (.int .i64 (zf 6 : Int)) := HOC.out 6 (by omega)
      have o7 : wr.cell? ⟨b, 313, none⟩ = some (.int .i64 (zf 7 : Int)) := HOC.out 7 (by omega)
      have o8 : wr.cell? ⟨b, 314, none⟩ = some (.int .i64 (zf 8 : Int)) := HOC.out 8 (by omega)
      have o9 : wr.cell? ⟨b, 315, none⟩ = some (.int .i64 (zf 9 : Int)) := HOC.out 9 (by omega)
      have o10 : wr.cell? ⟨b, 316, none⟩ = some (.int .i64 (zf 10 : Int)) := HOC.out 10 (by omega)
      have o11 : wr.cell? ⟨b, 317, none⟩ = some (.int .i64 (zf 11 : Int)) := HOC.out 11 (by omega)
      have o12 : wr.cell? ⟨b, 318, none⟩ = some (.int .i64 (zf 12 : Int)) := HOC.out 12 (by omega)
      have o13 : wr.cell? ⟨b, 319, none⟩ = some (.int .i64 (zf 13 : Int)) := HOC.out 13 (by omega)
      have o14 : wr.cell? ⟨b, 320, none⟩ = some (.int .i64 (zf 14 : Int)) := HOC.out 14 (by omega)
      have o15 : wr.cell? ⟨b, 321, none⟩ = some (.int .i64 (zf 15 : Int)) := HOC.out 15 (by omega)
      go_wp2_with fail
      clear o0 o1 o2 o3 o4 o5 o6 o7 o8 o9 o10 o11 o12 o13 o14 o15
      go_loopw [104] (fun i wr3 => ∃ j : Nat, j ≤ 16 ∧ i = .int .i64 (j : Int) ∧ wr3 = wr) (fun i _ => 16 - (intOf i).toNat)
      case atStart => exact ⟨0, by omega, rfl, rfl⟩
      case round =>
        obtain ⟨j, hj, rfl, hw⟩ := hrel
        subst hw
        rcases Nat.lt_or_ge j 16 with hj2 | hj2
        case inl =>
          have t4 : decide ((j : Int) < 16) = true := decide_eq_true (by omega)
          have hix := index_ints zf j hj2
          rw [HZF.out j] at hix
          go_wp2_with fail
          refine ⟨⟨j + 1, by omega, by go_num, by first | rfl | trivial⟩, ?_⟩
          simp [intOf]; omega
        obtain rfl : j = 16 := by omega
        have t4 : decide (((16 : Nat) : Int) < 16) = false := by decide
        go_wp2_with fail
        refine ⟨⟨k + 1, by omega, by go_num, T, R9, HTB, RW9, OQ⟩, ?_⟩
        simp [intOf]; omega
end Go.Proofs.YtdlpgoackmgdkaaGreatDoor
