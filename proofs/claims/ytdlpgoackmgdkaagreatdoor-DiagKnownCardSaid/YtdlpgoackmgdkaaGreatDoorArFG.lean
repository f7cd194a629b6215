/- sends: what a plan's program sends in so many frames. -/
import Derived.Test.YtdlpgoackmgdkaaGreatDoorArE
import Derived.Test.YtdlpgoackmgdkaaGreatDoorMaM
import Derived.Deep.AppendLies
namespace Go.Proofs.YtdlpgoackmgdkaaGreatDoor
open Go.RowKit Go.Shelf
set_option linter.unusedVariables false
set_option linter.unusedSimpArgs false
/-- The number of frames behind so many. -/
def itN (f : Nat) : Nat → Nat
  | 0 => f
  | k + 1 => moreN (itN f k)
theorem moreN_lt {f : Nat} (h : f < 4294967296) : moreN f < 4294967296 := by unfold moreN; split <;> omega
theorem itN_lt {f : Nat} (h : f < 4294967296) : ∀ k, itN f k < 4294967296
  | 0 => h
  | k + 1 => moreN_lt (itN_lt h k)
def sentsN (ls : List PL) (f n : Nat) : List Nat := (List.range n).map fun i => sentF (itN f i) 0 ls
theorem sentsN_succ (ls : List PL) (f n : Nat) : sentsN ls f (n + 1) = sentsN ls f n ++ [sentF (itN f n) 0 ls] := by
  unfold sentsN; rw [List.range_succ, List.map_append]; rfl
theorem sentF_lt {n : Nat} : ∀ (l : List PL) (acc : Nat), acc < 4294967296 → (∀ x ∈ l, x.ask < 4294967296) → sentF n acc l < 4294967296
  | [], acc, h, _ => h
  | x :: r, acc, h, hl => by
    rw [sentF]
    refine sentF_lt r _ ?_ (fun y hy => hl y (List.mem_cons_of_mem _ hy))
    split
    · exact hl x (by simp)
    · exact h
def u32L (l : List Nat) : List Value := l.map fun x : Nat => Value.int .u32 (x : Int)
def S0 (base f : Nat) : MS := ⟨base, 4, fun j => if j < 4 then f / 256 ^ j % 256 else 0, fun _ => 0, fun _ => 0, fun _ => 0, fun _ => 0, fun _ => 0, fun _ => 0, fun _ => 0, []⟩
theorem S0_word {base f : Nat} (h : f < 4294967296) : wordD (S0 base f).data 0 = f := by
  unfold wordD S0; simp; omega
theorem S0_ok {base f : Nat} (hb : base < 4294967296) : (S0 base f).Ok :=
  ⟨hb, fun j => by show (if j < 4 then f / 256 ^ j % 256 else 0) < 256; split; (· exact Nat.mod_lt _ (by decide)); (· decide), fun _ => by show 0 < _; decide, fun _ => by show 0 < _; decide, fun _ => by show 0 < _; decide, fun _ => by show 0 < _; decide, fun _ => by show 0 < _; decide, fun x hx => by cases hx⟩
/-- A machine's cells as they are made. -/
def newV (base db : Nat) (n c : Nat) (j : Nat) : Value := if j = 594 then .slice none 0 0 else if j = 597 then .slice none 0 0 else machV ⟨0, db, 0, 0, 0, c, 0⟩ ⟨base, n, fun _ => 0, fun _ => 0, fun _ => 0, fun _ => 0, fun _ => 0, fun _ => 0, fun _ => 0, fun _ => 0, []⟩ undef 0 j
def newL (base db n c : Nat) : Array Value := ((List.range 598).map (newV base db n c)).toArray
set_option maxRecDepth 100000 in
theorem newL_built (base db n c : Nat) : Tryz.prog.built 99 [(0, .int .u32 (base : Int)), (1, .slice (some ⟨db, 0, none⟩) n c)] = some (newL base db n c) := by kernel_rfl
theorem MA.rest {w : World} {u : Mb} {S : MS} {sv : Value} {m : Nat} {dv : Nat → Nat} (h : MA w u S sv m dv) : MRest w u.b u.db u.dc S :=
  ⟨⟨_, m, h.most, h.mb.row, fun j hj h1 h2 => by
    unfold machV
    repeat (first | (refine ite_congr rfl (fun _ => by with_reducible rfl) fun _ => ?_) | (refine ite_congr rfl (fun e => absurd e h1) fun _ => ?_))
    exfalso; omega⟩, h.mb.data, h.mb.ap.2.2.2.1, h.ok, h.mb.cap.1, h.mb.cap.2.1⟩
end Go.Proofs.YtdlpgoackmgdkaaGreatDoor
/- sends. -/
namespace Go.Proofs.YtdlpgoackmgdkaaGreatDoor
open Go.RowKit Go.Shelf
set_option linter.unusedVariables false
set_option linter.unusedSimpArgs false
theorem index_ints (sf : Nat → Nat) (k : Nat) (h : k < 16) (w : World) : (Instr.index 97 (.agg #[.int .i64 (sf 0 : Int), .int .i64 (sf 1 : Int), .int .i64 (sf 2 : Int), .int .i64 (sf 3 : Int), .int .i64 (sf 4 : Int), .int .i64 (sf 5 : Int), .int .i64 (sf 6 : Int), .int .i64 (sf 7 : Int), .int .i64 (sf 8 : Int), .int .i64 (sf 9 : Int), .int .i64 (sf 10 : Int), .int .i64 (sf 11 : Int), .int .i64 (sf 12 : Int), .int .i64 (sf 13 : Int), .int .i64 (sf 14 : Int), .int .i64 (sf 15 : Int)]) (.int .i64 (k : Int))).run Tryz.prog w = .ok (.int .i64 (sf k : Int)) w := by
  match k, h with
  | 0, _ => show _ = _; kernel_rfl
  | 1, _ => show _ = _; kernel_rfl
  | 2, _ => show _ = _; kernel_rfl
  | 3, _ => show _ = _; kernel_rfl
  | 4, _ => show _ = _; kernel_rfl
  | 5, _ => show _ = _; kernel_rfl
  | 6, _ => show _ = _; kernel_rfl
  | 7, _ => show _ = _; kernel_rfl
  | 8, _ => show _ = _; kernel_rfl
  | 9, _ => show _ = _; kernel_rfl
  | 10, _ => show _ = _; kernel_rfl
  | 11, _ => show _ = _; kernel_rfl
  | 12, _ => show _ = _; kernel_rfl
  | 13, _ => show _ = _; kernel_rfl
  | 14, _ => show _ = _; kernel_rfl
  | 15, _ => show _ = _; kernel_rfl
  | n + 16, h => omega
theorem insAt_only {M : Nat → Prop} {w w' : World} {a : Option Addr} {ls : List Ins} (h : InsAt w a ls) (ho : Only M w w') (hM : ∀ g o, a = some ⟨g, o, none⟩ → ¬ M g) : InsAt w' a ls := by
  rcases h with h | ⟨b, off, rfl, hlt, hc⟩
  · exact .inl h
  · exact .inr ⟨b, off, rfl, Nat.lt_of_lt_of_le hlt ho.size, fun i hi j hj => only_cell ho (hc i hi j hj) hlt (hM b off rfl)⟩
theorem MRest.same {w w' : World} {b db dc : Nat} {S : MS} {B : Nat} (h : MRest w b db dc S) (hs : ∀ i, i < B → w'.heap[i]? = w.heap[i]?) (hb : b < B ∧ db < B) : MRest w' b db dc S := by
  obtain ⟨V, m, h1, h2, h3⟩ := h.row
  exact ⟨⟨V, m, h1, h2.same (hs _ hb.1), h3⟩, h.data.same (hs _ hb.2), h.ne, h.ok, h.cap⟩
theorem MRest.below {w w' : World} {b db dc : Nat} {S : MS} (h : MRest w b db dc S) (hb : Below w.heap.size w w') : MRest w' b db dc S := by
  obtain ⟨V, m, h1, h2, h3⟩ := h.row
  exact ⟨⟨V, m, h1, h2.same (hb.block _ h2.lt), h3⟩, h.data.same (hb.block _ h.data.lt), h.ne, h.ok, h.cap⟩
theorem ins_ok4 {op a b c : Nat} (h : op < 256 ∧ a < 256 ∧ b < 65536 ∧ c < 4294967296) : (⟨op, a, b, c⟩ : Ins).ok := ⟨h.1, h.2.1, h.2.2.1, h.2.2.2⟩
theorem linC_ok {base P : Nat} (hb : base < 4294967296) (hP : P < 16) : ∀ (l : List PL) (k : Nat), k + 7 * l.length ≤ 100000 → (∀ x ∈ l, x.fr < 4294967296 ∧ x.ask < 4294967296) → ∀ y ∈ linC base P k l, y.ok
  | [], k, _, _, y, hy => by
    rw [linC, tailC] at hy
    simp only [List.mem_cons, List.mem_nil_iff, or_false] at hy
    rcases hy with rfl | rfl | rfl | rfl | rfl | rfl | rfl | rfl | rfl | rfl | rfl <;> exact ins_ok4 (by omega)
  | x :: r, k, hk, hx, y, hy => by
    rw [List.length_cons] at hk
    have h1 := hx x (by simp)
    rw [linC] at hy
    simp only [List.mem_cons] at hy
    rcases hy with rfl | rfl | rfl | rfl | rfl | rfl | rfl | hy
    · exact ins_ok4 (by omega)
    · exact ins_ok4 (by omega)
    · exact ins_ok4 (by omega)
    · exact ins_ok4 (by omega)
    · exact ins_ok4 (by omega)
    · exact ins_ok4 (by omega)
    · exact ins_ok4 (by omega)
    · exact linC_ok hb hP r (k + 7) (by omega) (fun z hz => hx z (List.mem_cons_of_mem _ hz)) y hy
theorem arsC_ok {base P : Nat} {l : List PL} (h : PlanOk base P l) : ∀ y ∈ arsC base P l, y.ok := by
  intro y hy
  have h1 := h.base; have h2 := h.len; have hP := h.port
  unfold arsC at hy
  simp only [List.mem_cons] at hy
  rcases hy with rfl | rfl | hy
  · exact ins_ok4 (by omega)
  · exact ins_ok4 (by omega)
  · exact linC_ok (by omega) hP l 2 (by omega) (fun x hx => by have := h.lines x hx; unfold PL.ask; omega) y hy
theorem newL_size (base db n c : Nat) : (newL base db n c).size = 598 := by unfold newL; simp
theorem newL_get {base db n c j : Nat} (h : j < 598) : (newL base db n c)[j]? = some (newV base db n c j) := by unfold newL; simp [h]
set_option maxRecDepth 100000 in
set_option maxHeartbeats 8000000 in
theorem sends_any (ls : List PL) (a : Option Addr) (c base f N : Nat) (port : Int) (w : World) (hA : PlsAt w a ls) (hok : ∀ i, i < ls.length → (ls.getD i pl0).ok) (hm : ls.length ≤ 9223372036854775807) (hb0 : base < 4294967296) (hf : f < 4294967296) (hN : N ≤ 60) (hmay : mayB base port ls = true) (hL : LibW w) :
    Calls Tryz.prog 16 #[.agg #[.int .u32 (base : Int), .int .i64 port, .slice a ls.length c], .int .u32 (f : Int), .int .i64 (N : Int)] w fun e w' =>
      (∃ v, e = .returned (.tuple #[v, .bool true]) ∧ w'.ownsRow w.heap.size 22 1 v N (u32L (sentsN ls f N))) ∧ Below w.heap.size w w' := by
  obtain ⟨i0, hi, hz0, hz1, hz2⟩ := info_parts (show (Tryz.prog.info? 22).map (fun i => (i.zero, i.size, i.bytes)) = some (some (.int .u32 0), 1, 4) by kernel_rfl)
  have HIn := Lib.hid hi; have HZ0 := Lib.hid hz0; have HZ1 := Lib.hid hz1; have HZ2 := Lib.hid hz2
  clear hi hz0 hz1 hz2
  obtain ⟨hplan, hpp⟩ := mayB_ok hmay hok
  obtain ⟨w1, hw1⟩ : ∃ x, x = w.alloc (.cells #[.int .u32 (base : Int), .int .i64 port, .slice a ls.length c] 25) := ⟨_, rfl⟩
  have B1 : Hid (Below w.heap.size w w1) := by rw [hw1]; exact alloc_below _ _
  have HBD := Lib.hid (build_ok ls a c base port w1 (hA.below B1.out) hok hm hb0 hmay (hL.below B1.out))
  obtain ⟨P, hP⟩ : ∃ P, P = port.toNat := ⟨_, rfl⟩
  rw [← hP] at hplan hpp HBD
  subst hpp
  have HPL := Lib.hid hplan
  have hP16 := hplan.port
  obtain ⟨code, hcode⟩ : ∃ code, code = arsC base P ls := ⟨_, rfl⟩
  rw [← hcode] at HBD
  have hcl : code.length ≤ 16384 := by rw [hcode, arsC_len]; have := hplan.len; omega
  have hc0 : 0 < code.length := by rw [hcode, arsC_len]; omega
  have HRUN : Hid (∀ (S : MS) (n : Nat), S.base = base → S.dn = 4 → S.stack = [] → wordD S.data 0 = n → n < 4294967296 → Run code 0 S (arsE P n (sentF n 0 ls) S)) := fun S n h1 h2 h3 h4 hn => by rw [hcode]; exact ars_run hplan h1 h2 h3 h4 hn
  have HCOK : Hid (∀ i, i < code.length → (code.getD i noIns).ok) := fun i hi => by
    rw [List.getD_eq_getElem?_getD, List.getElem?_eq_getElem hi]
    have := arsC_ok hplan code[i] (by rw [← hcode]; exact List.getElem_mem hi)
    exact this
  have HSL : Hid (∀ n, sentF n 0 ls < 4294967296) := fun n => sentF_lt ls 0 (by decide) (fun x hx => by have := hplan.lines x hx; unfold PL.ask; omega)
  have HW1 := Lib.hid hw1
  have K1 : Hid (w1.heap[w.heap.size]? = some (.cells #[.int .u32 (base : Int), .int .i64 (P : Int), .slice a ls.length c] 25 (0, 0))) := by rw [hw1]; exact heap_alloc_new _ _
  obtain ⟨g, hg⟩ : ∃ g, g = w.heap.size := ⟨_, rfl⟩
  rw [← hg] at K1
  have HG := Lib.hid hg
  generalize ls.length = n at *
  clear hA hok hmay hw1 hg hL hP hplan hcode
  have q0 := cell_row (j := 0) K1.out rfl
  have q1 := cell_row (j := 1) K1.out rfl
  have q2 := cell_row (j := 2) K1.out rfl
  go_enter Tryz.func16, Tryz.ntmps16
  go_upto_region 1 with fail
  rw [← HW1.out, ← HG.out]
  clear HW1
  go_wp2_with fail
  refine HBD.out.mono ?_
  rintro e w2 ⟨⟨v2, rfl, ho2⟩, hb2⟩
  obtain ⟨ca, cc, rfl, hcc1, hcc2, hIA⟩ := ins_of_own ho2
  have HIA := Lib.hid hIA
  have B2 : Hid (Below w.heap.size w w2) := B1.out.trans (hb2.mono B1.out.size)
  have hgl := heap_lt K1.out
  have p0 := (hb2.cell (p := ⟨g, 0, none⟩) hgl).trans q0
  have p1 := (hb2.cell (p := ⟨g, 1, none⟩) hgl).trans q1
  have HP1 := Lib.hid p1
  have HGB : Hid (g < w2.heap.size) := Nat.lt_of_lt_of_le hgl hb2.size
  clear hb2 ho2 hIA HBD K1 B1 q0 q1 q2 hgl
  unfold maxLen at hcc2
  obtain ⟨d0, hd0⟩ : ∃ d, d = f % 256 := ⟨_, rfl⟩
  obtain ⟨d1, hd1⟩ : ∃ d, d = f / 256 % 256 := ⟨_, rfl⟩
  obtain ⟨d2, hd2⟩ : ∃ d, d = f / 65536 % 256 := ⟨_, rfl⟩
  obtain ⟨d3, hd3⟩ : ∃ d, d = f / 16777216 := ⟨_, rfl⟩
  have e0 : (f : Int) % 256 = (d0 : Int) := by omega
  have e1 : (f : Int) / 256 % 256 = (d1 : Int) := by omega
  have e2 : (f : Int) / 65536 % 256 = (d2 : Int) := by omega
  have e3 : (f : Int) / 16777216 = (d3 : Int) := by omega
  have e4 : (f : Int) / 16777216 % 256 = (d3 : Int) := by omega
  have HD0 := Lib.hid hd0; have HD1 := Lib.hid hd1; have HD2 := Lib.hid hd2; have HD3 := Lib.hid hd3
  clear hd0 hd1 hd2 hd3
  go_upto_region 4 with fail
  iterate 43 go_step
  obtain ⟨w4, hw4⟩ : ∃ x, x = w2.alloc (.cells #[.int .u8 (d0 : Int), .int .u8 (d1 : Int), .int .u8 (d2 : Int), .int .u8 (d3 : Int)] 5) := ⟨_, rfl⟩
  have B4 : Hid (Below w2.heap.size w2 w4) := by rw [hw4]; exact alloc_below _ _
  have D4 : Hid (RowAt w4 w2.heap.size 5 4 (fun i => .int .u8 ((S0 base f).data i : Int))) := by
    rw [hw4]
    refine ⟨_, heap_alloc_new _ _, Nat.le_refl _, fun i hi => ?_⟩
    match i, hi with
    | 0, _ => rw [HD0.out]; simp [S0]
    | 1, _ => rw [HD1.out]; simp [S0]
    | 2, _ => rw [HD2.out]; simp [S0]
    | 3, _ => rw [HD3.out]; simp [S0]; omega
    | n + 4, h => omega
  have hs4 : Hid (w4.heap.size = w2.heap.size + 1) := by rw [hw4]; show _ = _; simp
  rw [← hw4]
  clear hw4
  have HS4 := Lib.hid hs4.out
  obtain ⟨db, hdb⟩ : ∃ x, x = w2.heap.size := ⟨_, rfl⟩
  rw [← hdb] at D4 HS4 HGB B4 ⊢
  have HDB := Lib.hid hdb
  clear hdb hs4 e0 e1 e2 e3 e4
  obtain ⟨arr, harr⟩ : ∃ x, x = newL base db 4 4 := ⟨_, rfl⟩
  have hsz : arr.size = 598 := by rw [harr, newL_size]
  have HARR := Lib.hid harr
  clear harr
  refine wpList_build_eq rfl 99 _ rfl arr (by rw [HARR.out]; kernel_rfl) ?_
  obtain ⟨w5, hw5⟩ : ∃ x, x = w4.alloc (.cells arr 99) := ⟨_, rfl⟩
  have B5 : Hid (Below db w2 w5) := by rw [hw5]; exact B4.out.alloc (by rw [HS4.out]; omega) _
  have M5 : Hid (MRest w5 (db + 1) db 4 (S0 base f)) := by
    refine ⟨⟨newV base db 4 4, 0, by decide, ⟨arr, by rw [hw5, ← HS4.out]; exact heap_alloc_new _ _, Nat.le_of_eq hsz.symm, fun i hi => by rw [HARR.out]; exact newL_get hi⟩, fun j hj h1 h2 => ?_⟩, D4.out.same (by rw [hw5]; exact heap_alloc_old _ _ (by rw [HS4.out]; omega)), by omega, S0_ok hb0, by show 4 ≤ 4; omega, by unfold maxLen; omega⟩
    unfold newV
    rw [if_neg h1, if_neg h2]
    rfl
  have hs5 : Hid (w5.heap.size = db + 1 + 1) := by rw [hw5]; show _ = _; rw [← HS4.out]; simp
  have HW5 := Lib.hid hw5
  clear hw5
  go_upto_region 5 with fail
  rw [← HW5.out, HS4.out]
  clear HW5 p0
  obtain ⟨b, hb⟩ : ∃ b, b = db + 1 := ⟨_, rfl⟩
  rw [← hb] at M5 hs5 ⊢
  have HS5 : Hid (w5.heap.size = b + 1) := hs5.out
  have HBB := Lib.hid hb
  have B5w : Hid (Below w.heap.size w w5) := B2.out.trans (B5.out.mono (by rw [HDB.out]; exact B2.out.size))
  have HI5 : Hid (InsAt w5 ca code) := HIA.out.below (by rw [← HDB.out]; exact B5.out)
  have HCA : Hid (∀ g' o, ca = some ⟨g', o, none⟩ → g' ≠ b ∧ g' ≠ db ∧ g' < db) := fun g' o e => by
    rcases HIA.out with h0 | ⟨g2, o2, e2, hlt, _⟩
    · rw [h0] at hc0; exact absurd hc0 (by decide)
    · rw [e] at e2
      have : g' = g2 := by cases e2; rfl
      rw [← HDB.out] at hlt
      omega
  have B5' := Lib.hid B5.out
  clear hb B5
  go_wp2_with fail
  go_loopw [11, 38] (fun v i wr => ∃ k : Nat, k ≤ N ∧ i = .int .i64 (k : Int) ∧ ∃ S : MS, Hid (MRest wr b db 4 S) ∧ Hid (S.base = base ∧ S.dn = 4 ∧ wordD S.data 0 = itN f k) ∧ Hid (wr.ownsRow (b + 1) 22 1 v k (u32L (sentsN ls f k))) ∧ Hid (Only (fun i => i = b ∨ i = db) w5 wr) ∧ Hid (b + 1 ≤ wr.heap.size)) (fun _ i _ => N - (intOf i).toNat)
  case atStart => exact ⟨0, Nat.zero_le _, rfl, S0 base f, M5, ⟨rfl, rfl, S0_word hf⟩, World.ownsRow_nil _ _ _ _, Only.refl _ _, by have := M5.out.row; obtain ⟨_, _, _, h, _⟩ := this; exact h.lt⟩
  case round =>
    clear M5
    obtain ⟨k, hk, rfl, S, MR, HSS, HO, OM, HSZ⟩ := hrel
    have BW : Hid (Below w.heap.size w wr) := ⟨OM.out.os.trans B5w.out.os, OM.out.tape.trans B5w.out.tape, OM.out.output.trans B5w.out.output, Nat.le_trans B5w.out.size OM.out.size, fun i hi => (OM.out.block i (Nat.lt_of_lt_of_le hi B5w.out.size) (fun e => by have h1 := HBB.out; have h2 := HDB.out; have h3 := B2.out.size; omega)).trans (B5w.out.block i hi)⟩
    rcases Nat.lt_or_ge k N with hk2 | hk2
    case inr =>
      obtain rfl : k = N := by omega
      have t2 : decide ((k : Int) < (k : Int)) = false := by simp
      have HOL := Lib.hid (own_low HO.out (show w.heap.size ≤ b + 1 by have h1 := HBB.out; have h2 := HDB.out; have h3 := B2.out.size; omega))
      go_wp2_with fail
      go_ret2
      exact ⟨⟨_, rfl, HOL.out⟩, BW.out⟩
    have t2 : decide ((k : Int) < (N : Int)) = true := decide_eq_true (by omega)
    obtain ⟨x, hx⟩ : ∃ x, x = sentF (itN f k) 0 ls := ⟨_, rfl⟩
    have hxl : x < 4294967296 := by rw [hx]; exact HSL.out _
    have HR := Lib.hid (HRUN.out S.begin (itN f k) HSS.out.1 HSS.out.2.1 rfl HSS.out.2.2 (itN_lt hf k))
    rw [← hx] at HR
    have HFR := Lib.hid (frame_any code ca cc b db 4 S _ wr MR.out (insAt_only HI5.out OM.out (fun g o e h => by have := HCA.out g o e; omega)) (fun g o e => ⟨(HCA.out g o e).1, (HCA.out g o e).2.1⟩) hc0 hcl HCOK.out HR.out)
    have HX := Lib.hid hx
    clear hx
    go_wp2_with fail
    refine HFR.out.mono ?_
    rintro e w6 ⟨rfl, ⟨u, sv, m, dv, M6, hu1, hu2, hu3, hu4, hdv⟩, ho6⟩
    have hm16 := M6.most
    have hrow := M6.mb.row
    rw [hu1] at hrow
    have R6 := Lib.hid M6.rest
    rw [hu1, hu2, hu3] at R6
    obtain ⟨sf, hsf⟩ : ∃ sf : Nat → Nat, sf = fun j => if j = P then 1 else 0 := ⟨_, rfl⟩
    have HSF : Hid (∀ j, sf j = if j = P then 1 else 0) := fun j => by rw [hsf]
    have HSC : Hid (∀ j, j < 16 → w6.cell? ⟨b, 578 + j, none⟩ = some (.int .i64 (sf j : Int))) := fun j hj => by
      rw [hrow.cell (by omega), machV_sent _ _ _ _ hj, hsf]
      show some (Value.int .i64 ((upd (fun _ => 0) P (0 + 1) j : Nat) : Int)) = _
      unfold upd; simp only []
    have c595 : w6.cell? ⟨b, 595, none⟩ = some (.int .i64 (m : Int)) := hrow.cell (i := 595) (by omega)
    have HPC : Hid (w6.cell? ⟨b, 322 + P * 16, none⟩ = some (.int .u32 (x : Int))) := by
      have h1 := hrow.cell (i := 322 + P * 16) (by omega)
      rw [machV_puts _ _ _ _ (show P * 16 < 256 by omega)] at h1
      rw [show w6.cell? ⟨b, 322 + P * 16, none⟩ = _ from h1]
      show some (Value.int .u32 ((upd S.puts (P * 16) x (P * 16) : Nat) : Int)) = _
      rw [upd_same]
    have O6 := Lib.hid (OM.out.trans ho6)
    have HO6 : Hid (w6.ownsRow (b + 1) 22 1 u11 k (u32L (sentsN ls f k))) := stk_same HO.out (fun g hg hlt => ho6.block g hlt (fun e => by have := HBB.out; omega))
    have HS6 : Hid (b + 1 ≤ w6.heap.size) := Nat.le_trans HSZ.out ho6.size
    have HSS6 : Hid ((arsE P (itN f k) x S.begin).base = base ∧ (arsE P (itN f k) x S.begin).dn = 4 ∧ wordD (arsE P (itN f k) x S.begin).data 0 = itN f (k + 1)) := ⟨HSS.out.1, HSS.out.2.1, word_put _ _ _ (moreN_lt (itN_lt hf k))⟩
    have g1 : w6.cell? ⟨g, 1, none⟩ = some (.int .i64 (P : Int)) := by
      have h1 : w5.cell? ⟨g, 1, none⟩ = _ := (B5'.out.cell (p := ⟨g, 1, none⟩) HGB.out).trans HP1.out
      exact only_cell O6.out h1 (by have := B5'.out.size; have := HGB.out; have := HDB.out; omega) (fun e => by have := HBB.out; have := HGB.out; omega)
    have s0 : w6.cell? ⟨b, 578, none⟩ = some (.int .i64 (sf 0 : Int)) := HSC.out 0 (by omega)
    have s1 : w6.cell? ⟨b, 579, none⟩ = some (.int .i64 (sf 1 : Int)) := HSC.out 1 (by omega)
    have s2 : w6.cell? ⟨b, 580, none⟩ = some (.int .i64 (sf 2 : Int)) := HSC.out 2 (by omega)
    have s3 : w6.cell? ⟨b, 581, none⟩ = some (.int .i64 (sf 3 : Int)) := HSC.out 3 (by omega)
    have s4 : w6.cell? ⟨b, 582, none⟩ = some (.int .i64 (sf 4 : Int)) := HSC.out 4 (by omega)
    have s5 : w6.cell? ⟨b, 583, none⟩ = some (.int .i64 (sf 5 : Int)) := HSC.out 5 (by omega)
    have s6 : w6.cell? ⟨b, 584, none⟩ = some (.int .i64 (sf 6 : Int)) := HSC.out 6 (by omega)
    have s7 : w6.cell? ⟨b, 585, none⟩ = some (.int .i64 (sf 7 : Int)) := HSC.out 7 (by omega)
    have s8 : w6.cell? ⟨b, 586, none⟩ = some (.int .i64 (sf 8 : Int)) := HSC.out 8 (by omega)
    have s9 : w6.cell? ⟨b, 587, none⟩ = some (.int .i64 (sf 9 : Int)) := HSC.out 9 (by omega)
    have s10 : w6.cell? ⟨b, 588, none⟩ = some (.int .i64 (sf 10 : Int)) := HSC.out 10 (by omega)
    have s11 : w6.cell? ⟨b, 589, none⟩ = some (.int .i64 (sf 11 : Int)) := HSC.out 11 (by omega)
    have s12 : w6.cell? ⟨b, 590, none⟩ = some (.int .i64 (sf 12 : Int)) := HSC.out 12 (by omega)
    have s13 : w6.cell? ⟨b, 591, none⟩ = some (.int .i64 (sf 13 : Int)) := HSC.out 13 (by omega)
    have s14 : w6.cell? ⟨b, 592, none⟩ = some (.int .i64 (sf 14 : Int)) := HSC.out 14 (by omega)
    have s15 : w6.cell? ⟨b, 593, none⟩ = some (.int .i64 (sf 15 : Int)) := HSC.out 15 (by omega)
    have t3 : decide ((16 : Int) < (m : Int)) = false := decide_eq_false (by omega)
    clear HFR HR M6 hu1 hu2 hu3 hu4 hdv ho6 hrow hsf HO OM HSZ MR HSS
    go_wp2_with fail
    clear s0 s1 s2 s3 s4 s5 s6 s7 s8 s9 s10 s11 s12 s13 s14 s15 c595 t3 HSC
    go_loopw [55] (fun i wr2 => ∃ j : Nat, j ≤ 16 ∧ i = .int .i64 (j : Int) ∧ wr2 = w6) (fun i _ => 16 - (intOf i).toNat)
    case atStart => exact ⟨0, by omega, rfl, rfl⟩
    case round =>
      obtain ⟨j, hj, rfl, hw⟩ := hrel
      subst hw
      rcases Nat.lt_or_ge j 16 with hj2 | hj2
      case inl =>
        have t4 : decide ((j : Int) < 16) = true := decide_eq_true (by omega)
        have hix := index_ints sf j hj2
        by_cases e : j = P
        · have t5 : ((j : Int) == (P : Int)) = true := beq_iff_eq.2 (by omega)
          rw [HSF.out j, if_pos e] at hix
          clear e
          go_wp2_with fail
          refine ⟨⟨j + 1, by omega, by go_num, by first | rfl | trivial⟩, ?_⟩
          simp [intOf]; omega
        · have t5 : ((j : Int) == (P : Int)) = false := beq_eq_false_iff_ne.2 (by omega)
          rw [HSF.out j, if_neg e] at hix
          clear e
          go_wp2_with fail
          refine ⟨⟨j + 1, by omega, by go_num, by first | rfl | trivial⟩, ?_⟩
          simp [intOf]; omega
      obtain rfl : j = 16 := by omega
      have t4 : decide (((16 : Nat) : Int) < 16) = false := by decide
      have j0 : (0 : Int) ≤ (P : Int) := by omega
      have j1 : (P : Int) < 16 := by omega
      have HPB := Lib.hid (World.block_lt_of_cell? _ _ HPC.out)
      have HGL := Lib.hid (World.block_lt_of_cell? _ _ g1)
      go_upto_region 16 with fail
      have KS : Hid (∀ W : World, (W.cell? ⟨g, 1, none⟩ = some (.int .i64 (P : Int)) ∧ W.cell? ⟨b, 322 + P * 16, none⟩ = some (.int .u32 (x : Int))) → (W.cell? ⟨g, 1, none⟩ = some (.int .i64 (P : Int)) ∧ W.cell? ⟨b, 322 + P * 16, none⟩ = some (.int .u32 (x : Int)))) := fun W h => h
      refine wp_region_T (fun W => W.cell? ⟨g, 1, none⟩ = some (.int .i64 (P : Int)) ∧ W.cell? ⟨b, 322 + P * 16, none⟩ = some (.int .u32 (x : Int))) [] (by kernel_rfl) ?_
      change wpAnyT _ _ _ _ _ _ _ _ _ (World.drew _)
      have S1 : (fun W : World => W.cell? ⟨g, 1, none⟩ = some (.int .i64 (P : Int)) ∧ W.cell? ⟨b, 322 + P * 16, none⟩ = some (.int .u32 (x : Int))) wr.drew := ⟨g1, HPC.out⟩
      clear g1
      have O7 : Hid (Only (fun i => i = b ∨ i = db) w5 wr.drew) := O6.out.drew
      have HO7 : Hid (wr.drew.ownsRow (b + 1) 22 1 u11 k (u32L (sentsN ls f k))) := HO6.out
      have R7 : Hid (MRest wr.drew b db 4 (arsE P (itN f k) x S.begin)) := R6.out.below (Below.drew (Below.refl _ _))
      have HS7 : Hid (b + 1 ≤ wr.drew.heap.size) := HS6.out
      have HPB7 : Hid (b < wr.drew.heap.size) := HPB.out
      have HGL7 : Hid (g < wr.drew.heap.size) := HGL.out
      clear O6 HO6 R6 HS6 HPB HGL HPC
      generalize wr.drew = w7 at *
      refine wpAnyT_pure (i := 0) (v := ?_) rfl (by kernel_rfl) (by kernel_rfl) (by kernel_rfl) (by kernel_rfl) (fun _ _ _ h => h) (Or.inl ⟨by kernel_rfl, ?_⟩) (fun _ => by assumption) ?_
      rotate_left
      · intro V hV; clear hV; go_simp; try (with_reducible rfl)
      try simp only [Act.put, List.getElem_toArray, List.getElem_cons_succ, List.getElem_cons_zero, List.setIfInBounds_toArray, List.set_cons_zero, List.set_cons_succ]
      refine wpAnyT_pure (i := 1) (v := ?_) rfl (by kernel_rfl) (by kernel_rfl) (by kernel_rfl) (by kernel_rfl) (fun _ _ _ h => h) (Or.inl ⟨by kernel_rfl, ?_⟩) (fun _ => by assumption) ?_
      rotate_left
      · intro V hV; clear hV; go_simp; try (with_reducible rfl)
      try simp only [Act.put, List.getElem_toArray, List.getElem_cons_succ, List.getElem_cons_zero, List.setIfInBounds_toArray, List.set_cons_zero, List.set_cons_succ]
      refine wpAnyT_pure (i := 2) (v := ?_) rfl (by kernel_rfl) (by kernel_rfl) (by kernel_rfl) (by kernel_rfl) (fun _ _ _ h => h) (Or.inl ⟨by kernel_rfl, ?_⟩) (fun _ => by assumption) ?_
      rotate_left
      · intro V hV; clear hV; go_simp; try (with_reducible rfl)
      try simp only [Act.put, List.getElem_toArray, List.getElem_cons_succ, List.getElem_cons_zero, List.setIfInBounds_toArray, List.set_cons_zero, List.set_cons_succ]
      refine wpAnyT_take (i := 3) (v := ?_) rfl (by kernel_rfl) (by kernel_rfl) (by kernel_rfl) (by kernel_rfl) (fun _ _ _ h => h) (Or.inl ⟨by kernel_rfl, ?_⟩) (by assumption) ?_
      rotate_left
      · intro V hV; have k := KS.out V hV; clear hV; go_simp; try (with_reducible rfl)
      try simp only [Act.put, List.getElem_toArray, List.getElem_cons_succ, List.getElem_cons_zero, List.setIfInBounds_toArray, List.set_cons_zero, List.set_cons_succ]
      refine wpAnyT_pure (i := 4) (v := ?_) rfl (by kernel_rfl) (by kernel_rfl) (by kernel_rfl) (by kernel_rfl) (fun _ _ _ h => h) (Or.inl ⟨by kernel_rfl, ?_⟩) (fun _ => by assumption) ?_
      rotate_left
      · intro V hV; clear hV; go_simp; try (with_reducible rfl)
      try simp only [Act.put, List.getElem_toArray, List.getElem_cons_succ, List.getElem_cons_zero, List.setIfInBounds_toArray, List.set_cons_zero, List.set_cons_succ]
      refine wpAnyT_pure (i := 5) (v := ?_) rfl (by kernel_rfl) (by kernel_rfl) (by kernel_rfl) (by kernel_rfl) (fun _ _ _ h => h) (Or.inl ⟨by kernel_rfl, ?_⟩) (fun _ => by assumption) ?_
      rotate_left
      · intro V hV; clear hV; go_simp; try (with_reducible rfl)
      try simp only [Act.put, List.getElem_toArray, List.getElem_cons_succ, List.getElem_cons_zero, List.setIfInBounds_toArray, List.set_cons_zero, List.set_cons_succ]
      refine wpAnyT_pure (i := 6) (v := ?_) rfl (by kernel_rfl) (by kernel_rfl) (by kernel_rfl) (by kernel_rfl) (fun _ _ _ h => h) (Or.inl ⟨by kernel_rfl, ?_⟩) (fun _ => by assumption) ?_
      rotate_left
      · intro V hV; clear hV; go_simp; try (with_reducible rfl)
      try simp only [Act.put, List.getElem_toArray, List.getElem_cons_succ, List.getElem_cons_zero, List.setIfInBounds_toArray, List.set_cons_zero, List.set_cons_succ]
      refine wpAnyT_pure (i := 7) (v := ?_) rfl (by kernel_rfl) (by kernel_rfl) (by kernel_rfl) (by kernel_rfl) (fun _ _ _ h => h) (Or.inl ⟨by kernel_rfl, ?_⟩) (fun _ => by assumption) ?_
      rotate_left
      · intro V hV; clear hV; go_simp; try (with_reducible rfl)
      try simp only [Act.put, List.getElem_toArray, List.getElem_cons_succ, List.getElem_cons_zero, List.setIfInBounds_toArray, List.set_cons_zero, List.set_cons_succ]
      refine wpAnyT_take (i := 8) (v := ?_) rfl (by kernel_rfl) (by kernel_rfl) (by kernel_rfl) (by kernel_rfl) (fun _ _ _ h => h) (Or.inl ⟨by kernel_rfl, ?_⟩) (by assumption) ?_
      rotate_left
      · intro V hV; have k := KS.out V hV; clear hV; go_simp; try (with_reducible rfl)
      try simp only [Act.put, List.getElem_toArray, List.getElem_cons_succ, List.getElem_cons_zero, List.setIfInBounds_toArray, List.set_cons_zero, List.set_cons_succ]
      refine wpAnyT_one (i := 9) (by kernel_rfl) rfl (fun K hK => ?_)
      go_simp
      have S8 : (fun W : World => W.cell? ⟨g, 1, none⟩ = some (.int .i64 (P : Int)) ∧ W.cell? ⟨b, 322 + P * 16, none⟩ = some (.int .u32 (x : Int))) (w7.alloc (.cells #[.int .u32 (x : Int)] 22)) := ⟨((alloc_below w7 _).cell HGL7.out).trans S1.1, ((alloc_below w7 _).cell HPB7.out).trans S1.2⟩
      refine hK.out _ _ (fun _ => S8) ?_
      clear hK K S1
      try simp only [Act.put, List.getElem_toArray, List.getElem_cons_succ, List.getElem_cons_zero, List.setIfInBounds_toArray, List.set_cons_zero, List.set_cons_succ]
      have HOA := Lib.hid (HO7.out.alloc (.cells #[.int .u32 (x : Int)] 22))
      have R8 : Hid (MRest (w7.alloc (.cells #[.int .u32 (x : Int)] 22)) b db 4 (arsE P (itN f k) x S.begin)) := R7.out.below (alloc_below _ _)
      have O8 : Hid (Only (fun i => i = b ∨ i = db) w5 (w7.alloc (.cells #[.int .u32 (x : Int)] 22))) := O7.out.alloc _
      refine wpAnyT_one (i := 10) (by kernel_rfl) rfl (fun K hK => ?_)
      refine step_append_lies _ (by rfl) _ _ _ (by rfl) (b + 1) 22 i0 (.int .u32 0) 1 4 Tryz.underlying28 HIn.out HZ0.out HZ1.out HZ2.out rfl (by omega) _ k (u32L (sentsN ls f k)) (by rfl) HOA.out ⟨w7.heap.size, 0, none⟩ 1 1 [.int .u32 (x : Int)] (by rfl) (by rfl) (news1 _ _ _) (by simp [Value.oneCell']) (by omega) (by unfold maxLen; omega) (by omega) (by have := HS7.out; simp; omega) (w7.heap.size + 1) (by simp) ?_
      intro gg cap w9 hown9 hgrow hat hlt9
      have hne : ∀ i, i < b + 1 → w9.heap[i]? = (w7.alloc (.cells #[.int .u32 (x : Int)] 22)).heap[i]? := fun i hi => hgrow.block i (by simp; have := HS7.out; omega) (fun e => by have := (HOA.out.lt i e.symm).1; omega)
      have S9 : (fun W : World => W.cell? ⟨g, 1, none⟩ = some (.int .i64 (P : Int)) ∧ W.cell? ⟨b, 322 + P * 16, none⟩ = some (.int .u32 (x : Int))) w9 := ⟨(World.cell?_of_block (hne g (by have h1 := HGB.out; have h2 := HBB.out; omega))).trans S8.1, (World.cell?_of_block (hne b (by omega))).trans S8.2⟩
      have R9 : Hid (MRest w9 b db 4 (arsE P (itN f k) x S.begin)) := R8.out.same hne ⟨by omega, by have := HBB.out; omega⟩
      have O9 : Hid (Only (fun i => i = b ∨ i = db) w5 w9) := ⟨hgrow.os.trans O8.out.os, hgrow.tape.trans O8.out.tape, hgrow.output.trans O8.out.output, Nat.le_trans O8.out.size hgrow.size, fun i hi hm => (hne i (by rw [← HS5.out]; exact hi)).trans (O8.out.block i hi hm)⟩
      have HO9 : Hid (w9.ownsRow (b + 1) 22 1 (.slice (some ⟨gg, 0, none⟩) (k + 1) cap) (k + 1) (u32L (sentsN ls f (k + 1)))) := by
        show World.ownsRow _ _ _ _ _ _ _
        rw [sentsN_succ, ← HX.out]
        have := hown9
        unfold u32L at this ⊢
        rw [List.map_append]; exact this
      have HS9 : Hid (b + 1 ≤ w9.heap.size) := Nat.le_trans HS7.out (Nat.le_trans (by simp) hgrow.size)
      refine hK.out _ _ (fun _ => S9) ?_
      clear hK K S8 hown9 hgrow hat hlt9 hne HOA R8 O8 R7 O7 HO7 HS7 HPB7 HGL7
      try simp only [Act.put, List.getElem_toArray, List.getElem_cons_succ, List.getElem_cons_zero, List.setIfInBounds_toArray, List.set_cons_zero, List.set_cons_succ]
      refine wpAnyT_pure (i := 11) (v := ?_) rfl (by kernel_rfl) (by kernel_rfl) (by kernel_rfl) (by kernel_rfl) (fun _ _ _ h => h) (Or.inl ⟨by kernel_rfl, ?_⟩) (fun _ => by assumption) ?_
      rotate_left
      · intro V hV; clear hV; go_simp; try (with_reducible rfl)
      try simp only [Act.put, List.getElem_toArray, List.getElem_cons_succ, List.getElem_cons_zero, List.setIfInBounds_toArray, List.set_cons_zero, List.set_cons_succ]
      refine wpAnyT_done (by kernel_rfl) ?_ _
      go_wp2_with fail
      refine ⟨⟨k + 1, by omega, by go_num, arsE P (itN f k) x S.begin, R9, HSS6, HO9, O9, HS9⟩, ?_⟩
      simp [intOf]; omega
end Go.Proofs.YtdlpgoackmgdkaaGreatDoor
