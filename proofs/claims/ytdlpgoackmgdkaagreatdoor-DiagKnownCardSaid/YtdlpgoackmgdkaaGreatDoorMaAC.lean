/- The document's machine: how it lies; push, pop. -/
import Derived.Test.YtdlpgoackmgdkaaGreatDoorMaPR
import Derived.Test.YtdlpgoackmgdkaaGreatDoorSet
import Derived.Deep.OwnRows
import Derived.BigQuiet
import Derived.BigRegion
import Derived.Laws.BitsAllLaws
import Derived.Sort.BigQuietIn
import Derived.Sort.QuietIn
namespace Go.Proofs.YtdlpgoackmgdkaaGreatDoor
open Go.RowKit
set_option linter.unusedVariables false
set_option linter.unusedSimpArgs false
/-- Its blocks; lo: from where on the stack may lie. -/
structure Mb where
  (b db nb lo len dc nc : Nat)
def machV (u : Mb) (S : MS) (sv : Value) (m : Nat) (k : Nat) : Value :=
  if k = 0 then .int .u32 (S.base : Int)
  else if k = 1 then .slice (some ⟨u.db, 0, none⟩) S.dn u.dc
  else if k < 18 then .int .u32 (S.ins (k - 2) : Int)
  else if k < 274 then .int .u32 (S.ports (k - 18) : Int)
  else if k < 290 then .int .u32 (S.ages (k - 274) : Int)
  else if k < 306 then .int .u32 (S.outs (k - 290) : Int)
  else if k < 322 then .int .i64 (S.out (k - 306) : Int)
  else if k < 578 then .int .u32 (S.puts (k - 322) : Int)
  else if k < 594 then .int .i64 (S.sent (k - 578) : Int)
  else if k = 594 then .slice (some ⟨u.nb, 0, none⟩) u.len u.nc
  else if k = 595 then .int .i64 (m : Int)
  else if k = 596 then .bool false
  else sv
def u32s (l : List Nat) : List Value := l.reverse.map fun x : Nat => Value.int .u32 (x : Int)
theorem u32s_cons (x : Nat) (l : List Nat) : u32s (x :: l) = u32s l ++ [.int .u32 (x : Int)] := by simp [u32s]
structure MB (w : World) (u : Mb) (S : MS) (sv : Value) (m : Nat) (dv : Nat → Nat) : Prop where
  row : RowAt w u.b 99 598 (machV u S sv m)
  data : RowAt w u.db 5 S.dn (fun i => .int .u8 (S.data i : Int))
  done : RowAt w u.nb 3 u.len (fun i => .int .i64 (dv i : Int))
  ap : u.b < u.lo ∧ u.db < u.lo ∧ u.nb < u.lo ∧ u.b ≠ u.db ∧ u.b ≠ u.nb ∧ u.db ≠ u.nb
  lo : u.lo ≤ w.heap.size
  cap : S.dn ≤ u.dc ∧ u.dc ≤ maxLen ∧ u.len ≤ u.nc ∧ u.nc ≤ maxLen
structure MA (w : World) (u : Mb) (S : MS) (sv : Value) (m : Nat) (dv : Nat → Nat) : Prop where
  mb : MB w u S sv m dv
  stk : w.ownsRow u.lo 22 1 sv S.stack.length (u32s S.stack)
  ok : S.Ok
  len : S.stack.length ≤ 16
  most : m ≤ 16
/-- What its doings may turn. -/
def MM (u : Mb) (i : Nat) : Prop := i = u.b ∨ i = u.db ∨ i = u.nb ∨ u.lo ≤ i
theorem stk_same {w w' : World} {B : Nat} {e : TypeId} {v : Value} {n : Nat} {xs : List Value} (h : w.ownsRow B e 1 v n xs) (hs : ∀ g, B ≤ g → g < w.heap.size → w'.heap[g]? = w.heap[g]?) : w'.ownsRow B e 1 v n xs := by
  refine ⟨h.1, ?_⟩
  rcases h.2 with h0 | ⟨g, cap, cur, rfl, h1, h2, h3⟩
  · exact .inl h0
  · exact .inr ⟨g, cap, cur, rfl, h1, (hs g h1 (heap_lt h2)).trans h2, h3⟩
/-- The stack's value is a slice. -/
theorem stk_slice {w : World} {B : Nat} {e : TypeId} {v : Value} {n : Nat} {xs : List Value} (h : w.ownsRow B e 1 v n xs) : ∃ a c, v = .slice a n c ∧ n ≤ c ∧ c ≤ maxLen := by
  rcases h.2 with ⟨rfl, h0⟩ | ⟨g, cap, cur, rfl, h1, h2, h3, h4, h5⟩
  · exact ⟨none, 0, by rw [h0], by omega, by unfold maxLen; omega⟩
  · exact ⟨_, cap, rfl, h3, h4⟩
/-- The last one is taken away. -/
theorem stk_pop {w : World} {B : Nat} {e : TypeId} {n : Nat} {xs : List Value} {y : Value} {a : Option Addr} {c : Nat} (h : w.ownsRow B e 1 (.slice a (n + 1) c) (n + 1) (xs ++ [y])) :
    ∃ g, a = some ⟨g, 0, none⟩ ∧ B ≤ g ∧ g < w.heap.size ∧ w.cell? ⟨g, n, none⟩ = some y ∧ w.ownsRow B e 1 (.slice (some ⟨g, 0, none⟩) n c) n xs := by
  have hl : xs.length = n := by have := h.1; rw [List.length_append] at this; simp at this; omega
  rcases h.2 with ⟨h0, h1⟩ | ⟨g, cap, cur, hv, h1, h2, h3, h4, h5, h6⟩
  · omega
  · injection hv with e1 e2 e3
    subst e1 e3
    refine ⟨g, rfl, h1, heap_lt h2, ?_, by rw [hl]; simp, .inr ⟨g, c, cur, rfl, h1, h2, by omega, h4, h5, ?_⟩⟩
    · refine cell_row h2 ?_
      have := congrArg (fun t => t[n]?) h6
      simp only [List.getElem?_take, List.getElem?_append_right (show xs.length ≤ n by omega), hl, Nat.sub_self] at this
      rw [if_pos (by omega)] at this
      simpa using this
    · rw [Nat.mul_one] at h6 ⊢
      have := congrArg (List.take n) h6
      rw [List.take_take, Nat.min_eq_left (Nat.le_succ n), List.take_left' hl] at this
      exact this
theorem MB.same {w w' : World} {u : Mb} {S : MS} {sv : Value} {m : Nat} {dv : Nat → Nat} (h : MB w u S sv m dv) (hb : ∀ i, i < u.lo → w'.heap[i]? = w.heap[i]?) (hs : w.heap.size ≤ w'.heap.size) : MB w' u S sv m dv :=
  ⟨h.row.same (hb _ h.ap.1), h.data.same (hb _ h.ap.2.1), h.done.same (hb _ h.ap.2.2.1), h.ap, Nat.le_trans h.lo hs, h.cap⟩
theorem MA.below {w w' : World} {u : Mb} {S : MS} {sv : Value} {m : Nat} {dv : Nat → Nat} (h : MA w u S sv m dv) (hb : Below w.heap.size w w') : MA w' u S sv m dv :=
  ⟨h.mb.same (fun i hi => hb.block i (Nat.lt_of_lt_of_le hi h.mb.lo)) hb.size, stk_same h.stk (fun g _ hg => hb.block g hg), h.ok, h.len, h.most⟩
theorem MA.drew {w : World} {u : Mb} {S : MS} {sv : Value} {m : Nat} {dv : Nat → Nat} (h : MA w u S sv m dv) : MA w.drew u S sv m dv := h.below (Below.drew (Below.refl _ _))
theorem MA.drewN {w : World} {u : Mb} {S : MS} {sv : Value} {m : Nat} {dv : Nat → Nat} (h : MA w u S sv m dv) (n : Nat) : MA (w.drewN n) u S sv m dv := h.below ⟨rfl, rfl, rfl, Nat.le_refl _, fun _ _ => rfl⟩
/-- A cell of its block is turned. -/
theorem MB.set {w : World} {u : Mb} {S S' : MS} {sv sv' : Value} {m m' : Nat} {dv : Nat → Nat} (h : MB w u S sv m dv) (k : Nat) (x : Value)
    (hV : ∀ j, j < 598 → (if j = k then x else machV u S sv m j) = machV u S' sv' m' j) (hd : S'.dn = S.dn) (hdt : S'.data = S.data) : MB (w.setCell ⟨u.b, k, none⟩ x) u S' sv' m' dv ∧ Only (fun i => i = u.b) w (w.setCell ⟨u.b, k, none⟩ x) :=
  have ho : Only (fun i => i = u.b) w (w.setCell ⟨u.b, k, none⟩ x) := (Only.refl _ w).set _ _ (.inr rfl)
  have oth : ∀ i, i ≠ u.b → (w.setCell ⟨u.b, k, none⟩ x).heap[i]? = w.heap[i]? := fun i hi => heap_setCell_other _ _ _ _ hi
  ⟨⟨(h.row.set x).congr hV, by rw [hd, hdt]; exact h.data.same (oth _ (fun e => h.ap.2.2.2.1 e.symm)), h.done.same (oth _ (fun e => h.ap.2.2.2.2.1 e.symm)),
    h.ap, Nat.le_trans h.lo ho.size, by rw [hd]; exact h.cap⟩, ho⟩
theorem stk_set {w : World} {u : Mb} {S : MS} {sv sv' : Value} {m : Nat} {dv : Nat → Nat} (h : MB w u S sv m dv) {n : Nat} {xs : List Value} (k : Nat) (x : Value) (hs : w.ownsRow u.lo 22 1 sv' n xs) : (w.setCell ⟨u.b, k, none⟩ x).ownsRow u.lo 22 1 sv' n xs :=
  stk_same hs fun g hg _ => heap_setCell_other _ _ _ _ (fun e => by have e : g = u.b := e; have := h.ap.1; omega)
/-- The stack's own row grew. -/
theorem MB.grown {w w' : World} {u : Mb} {S : MS} {sv : Value} {m : Nat} {dv : Nat → Nat} {o : Option Nat} (h : MB w u S sv m dv) (hg : w.grownBy w' o) (hs : ∀ k, o = some k → u.lo ≤ k) : MB w' u S sv m dv ∧ Only (fun i => o = some i) w w' :=
  ⟨h.same (fun i hi => hg.block i (Nat.lt_of_lt_of_le hi h.lo) (fun e => by have := hs _ e.symm; omega)) hg.size, Only.grown hg fun g hg => .inr hg⟩
/-- What push may turn: the machine's block, the stack's. -/
def PM (u : Mb) (sv : Value) (i : Nat) : Prop := i = u.b ∨ sv.ownBlock = some i
theorem MA.pm {w w' : World} {u : Mb} {S : MS} {sv : Value} {m : Nat} {dv : Nat → Nat} (h : MA w u S sv m dv) (ho : Only (PM u sv) w w') : Only (MM u) w w' :=
  ho.mono fun i _ hi => hi.elim .inl fun e => .inr (.inr (.inr (h.stk.lt i e).1))
theorem Only.b {w w' : World} {u : Mb} (ho : Only (fun i => i = u.b) w w') : Only (MM u) w w' := ho.mono fun i _ hi => .inl hi
/-- What stands in cells of its block. -/
theorem machV_stk (u : Mb) (S : MS) (sv : Value) (m : Nat) : machV u S sv m 597 = sv := rfl
theorem machV_most (u : Mb) (S : MS) (sv : Value) (m : Nat) : machV u S sv m 595 = .int .i64 (m : Int) := rfl
theorem set_stk (u : Mb) (S : MS) (sv sv' : Value) (m : Nat) (l : List Nat) : ∀ j, j < 598 → (if j = 597 then sv' else machV u S sv m j) = machV u { S with stack := l } sv' m j := fun j hj => by
  by_cases e : j = 597
  · subst e; rfl
  · rw [if_neg e]
    unfold machV
    repeat (refine ite_congr rfl (fun _ => rfl) fun _ => ?_)
    exfalso; omega
theorem set_most (u : Mb) (S : MS) (sv : Value) (m m' : Nat) : ∀ j, j < 598 → (if j = 595 then .int .i64 (m' : Int) else machV u S sv m j) = machV u S sv m' j := fun j hj => by
  by_cases e : j = 595
  · subst e; rfl
  · rw [if_neg e]
    unfold machV
    repeat (first | (refine ite_congr rfl (fun _ => rfl) fun _ => ?_) | (refine ite_congr rfl (fun h => absurd h e) fun _ => ?_))
    rfl
theorem news1 (w : World) (x : Value) (t : TypeId) : ∀ j v, [x][j]? = some v → (w.alloc (.cells #[x] t)).cell? ((⟨w.heap.size, 0, none⟩ : Addr).add j) = some v := by
  intro j v hj
  rw [Go.WideShapes.add_plain, Nat.zero_add]
  match j, hj with
  | 0, hj => exact cell_row (heap_alloc_new _ _) hj
  | n + 1, hj => simp at hj
set_option maxRecDepth 100000 in
set_option maxHeartbeats 4000000 in
theorem push_any (u : Mb) (S : MS) (sv : Value) (m : Nat) (dv : Nat → Nat) (x : Nat) (w : World) (h : MA w u S sv m dv) (hx : x < 4294967296) (hl : S.stack.length < 16) :
    Calls Tryz.prog 77 #[.pointer (some ⟨u.b, 0, none⟩), .int .u32 (x : Int)] w fun e w' => e = .returned (.tuple #[]) ∧ (∃ sv' m', MA w' u { S with stack := x :: S.stack } sv' m' dv) ∧ Only (PM u sv) w w' := by
  obtain ⟨i0, hi, hz0, hz1, hz2⟩ := info_parts (show (Tryz.prog.info? 22).map (fun i => (i.zero, i.size, i.bytes)) = some (some (.int .u32 0), 1, 4) by kernel_rfl)
  have HIn := Lib.hid hi; have HZ0 := Lib.hid hz0; have HZ1 := Lib.hid hz1; have HZ2 := Lib.hid hz2
  clear hi hz0 hz1 hz2
  obtain ⟨oa, oc, rfl, hoc, hom⟩ := stk_slice h.stk
  obtain ⟨n, hn⟩ : ∃ n, n = S.stack.length := ⟨_, rfl⟩
  obtain ⟨xs, hxs⟩ : ∃ xs, xs = u32s S.stack := ⟨_, rfl⟩
  have hmo := h.most
  have HX : Hid (u32s (x :: S.stack) = xs ++ [.int .u32 (x : Int)]) := by show _ = _; rw [hxs, u32s_cons]
  have HOK : Hid (({ S with stack := x :: S.stack } : MS).Ok) := h.ok.stk fun y hy => by rcases List.mem_cons.1 hy with rfl | hy; (· exact hx); (· exact h.ok.stack y hy)
  have HST := h.stk
  have HB0 := h.mb
  rw [← hn, ← hxs] at HST
  rw [← hn] at hl hoc HB0
  have c597 : w.cell? ⟨u.b, 597, none⟩ = some (.slice oa n oc) := HB0.row.cell (i := 597) (by omega)
  have OA := Lib.hid (HST.alloc (.cells #[.int .u32 (x : Int)] 22))
  have HW : Hid (∀ j v, [Value.int .u32 (x : Int)][j]? = some v → (w.alloc (.cells #[.int .u32 (x : Int)] 22)).cell? ((⟨w.heap.size, 0, none⟩ : Addr).add j) = some v) := news1 w _ _
  have HZ : Hid (u.lo ≤ w.heap.size) := HB0.lo
  have HL : Hid (∀ k, (Value.slice oa n oc).ownBlock = some k → u.lo ≤ k) := fun k hk => (HST.lt k hk).1
  have HB1 := Lib.hid HB0
  have HN := Lib.hid hn
  clear h hn HST hxs HB0
  go_enter Tryz.func77, Tryz.ntmps77
  go_wp2_with (at_builtin; refine wpList_append_own _ rfl _ _ 28 rfl u.lo 22 i0 (.int .u32 0) 1 4 Tryz.underlying28 HIn.out HZ0.out HZ1.out HZ2.out rfl (by decide) (.slice oa n oc) n _ rfl OA.out ⟨w.heap.size, 0, none⟩ 1 1 [.int .u32 (x : Int)] rfl rfl HW.out (fun u hu => by simp at hu; rw [hu]; rfl) (by unfold maxLen; omega) (by omega) (by simp; have := HZ.out; omega) ?_)
  intro v2 w2 ho2 hg2 _
  obtain ⟨B2, O2⟩ := (HB1.out.same (w' := w.alloc (.cells #[.int .u32 (x : Int)] 22)) (fun i hi => heap_alloc_old _ _ (Nat.lt_of_lt_of_le hi HZ.out)) (by simp)).grown hg2 HL.out
  have OW : Hid (Only (PM u (.slice oa n oc)) w w2) := ((Only.refl (PM u (.slice oa n oc)) w).alloc (.cells #[.int .u32 (x : Int)] 22)).trans (O2.mono fun i _ hi => .inr hi)
  obtain ⟨q, hq⟩ : ∃ q, q = n + 1 := ⟨_, rfl⟩
  rw [← hq, ← HX.out] at ho2
  have HQ : Hid (q = ({ S with stack := x :: S.stack } : MS).stack.length) := by show q = S.stack.length + 1; rw [← HN.out, hq]
  have q16 : q ≤ 16 := by omega
  clear hq
  obtain ⟨oa2, oc2, rfl, _, _⟩ := stk_slice ho2
  have d597 : w2.cell? ⟨u.b, 597, none⟩ = some (.slice oa n oc) := B2.row.cell (i := 597) (by omega)
  have f597 : w2.frozen? ⟨u.b, 597, none⟩ = false := B2.row.frozen 597
  obtain ⟨B3, O3⟩ := B2.set 597 (.slice oa2 q oc2) (set_stk u S (.slice oa n oc) (.slice oa2 q oc2) m (x :: S.stack)) rfl rfl
  have ST3 := Lib.hid (stk_set B2 597 (.slice oa2 q oc2) ho2)
  have OW3 := Lib.hid (OW.out.trans (O3.mono fun i _ hi => .inl hi))
  have BB3 := Lib.hid B3
  clear ho2 hg2 O2 OA HW c597 B2 OW O3 HB1 HL B3
  go_upto_region 1 with fail
  generalize w2.setCell ⟨u.b, 597, none⟩ (.slice oa2 q oc2) = w3 at *
  clear d597 f597
  have c597 : w3.cell? ⟨u.b, 597, none⟩ = some (.slice oa2 q oc2) := BB3.out.row.cell (i := 597) (by omega)
  have c595 : w3.cell? ⟨u.b, 595, none⟩ = some (.int .i64 (m : Int)) := BB3.out.row.cell (i := 595) (by omega)
  by_cases hm : m < q
  · have t1 : decide ((m : Int) < (q : Int)) = true := decide_eq_true (by omega)
    go_quiet (fail)
    have B4 := Lib.hid (BB3.out.same (w' := w3.drewN nq) (fun _ _ => rfl) (Nat.le_refl _))
    have O4 : Hid (Only (PM u (.slice oa n oc)) w (w3.drewN nq)) := OW3.out.drewN
    have S4 : Hid ((w3.drewN nq).ownsRow u.lo 22 1 (.slice oa2 q oc2) q (u32s (x :: S.stack))) := stk_same ST3.out (fun _ _ _ => rfl)
    generalize w3.drewN nq = w4 at *
    have d597 : w4.cell? ⟨u.b, 597, none⟩ = some (.slice oa2 q oc2) := B4.out.row.cell (i := 597) (by omega)
    have d595 : w4.cell? ⟨u.b, 595, none⟩ = some (.int .i64 (m : Int)) := B4.out.row.cell (i := 595) (by omega)
    have f595 : w4.frozen? ⟨u.b, 595, none⟩ = false := B4.out.row.frozen 595
    clear c597 c595 BB3 OW3 ST3
    go_wp2_with fail
    go_end0
    rw [← HN.out]
    obtain ⟨B5, O5⟩ := B4.out.set 595 (.int .i64 (q : Int)) (set_most u _ _ m q) rfl rfl
    exact ⟨rfl, ⟨_, _, B5, by show World.ownsRow _ _ _ _ _ (x :: S.stack).length _; rw [show (x :: S.stack).length = q from HQ.out.symm]; exact stk_set B4.out 595 (.int .i64 (q : Int)) S4.out, HOK.out, by rw [← HQ.out]; exact q16, q16⟩, O4.out.trans (O5.mono fun i _ hi => .inl hi)⟩
  · have t1 : decide ((m : Int) < (q : Int)) = false := decide_eq_false (by omega)
    go_quiet (fail)
    have B4 := Lib.hid (BB3.out.same (w' := w3.drewN nq) (fun _ _ => rfl) (Nat.le_refl _))
    have O4 : Hid (Only (PM u (.slice oa n oc)) w (w3.drewN nq)) := OW3.out.drewN
    have S4 : Hid ((w3.drewN nq).ownsRow u.lo 22 1 (.slice oa2 q oc2) q (u32s (x :: S.stack))) := stk_same ST3.out (fun _ _ _ => rfl)
    generalize w3.drewN nq = w4 at *
    clear c597 c595 BB3 OW3 ST3
    go_wp2_with fail
    go_end0
    rw [← HN.out]
    exact ⟨rfl, ⟨_, _, B4.out, by show World.ownsRow _ _ _ _ _ (x :: S.stack).length _; rw [show (x :: S.stack).length = q from HQ.out.symm]; exact S4.out, HOK.out, by rw [← HQ.out]; exact q16, hmo⟩, O4.out⟩
set_option maxRecDepth 100000 in
set_option maxHeartbeats 4000000 in
theorem pop_any (u : Mb) (S : MS) (sv : Value) (m : Nat) (dv : Nat → Nat) (x : Nat) (r : List Nat) (w : World) (h : MA w u S sv m dv) (hs : S.stack = x :: r) :
    Calls Tryz.prog 78 #[.pointer (some ⟨u.b, 0, none⟩)] w fun e w' => e = .returned (.int .u32 (x : Int)) ∧ (∃ sv', MA w' u { S with stack := r } sv' m dv ∧ sv'.ownBlock = sv.ownBlock) ∧ Only (fun i => i = u.b) w w' := by
  obtain ⟨n, hn⟩ : ∃ n, n = r.length := ⟨_, rfl⟩
  have hst := h.stk
  have hlen := h.len
  rw [hs, List.length_cons, ← hn] at hst hlen
  rw [u32s_cons] at hst
  obtain ⟨oa, oc, rfl, hoc, hom⟩ := stk_slice hst
  obtain ⟨g, rfl, hg1, hg2, hg3, hg4⟩ := stk_pop hst
  have HOK : Hid (({ S with stack := r } : MS).Ok) := h.ok.stk fun y hy => h.ok.stack y (by rw [hs]; simp [hy])
  have hmo := h.most
  have HB0 := Lib.hid h.mb
  have ST0 := Lib.hid hg4
  have HN := Lib.hid hn
  obtain ⟨q, hq⟩ : ∃ q, q = n + 1 := ⟨_, rfl⟩
  rw [← hq] at HB0 hst hoc
  have c597 : w.cell? ⟨u.b, 597, none⟩ = some (.slice (some ⟨g, 0, none⟩) q oc) := HB0.out.row.cell (i := 597) (by omega)
  have f597 : w.frozen? ⟨u.b, 597, none⟩ = false := HB0.out.row.frozen 597
  have t1 : ((q : Int) == 0) = false := beq_eq_false_iff_ne.2 (by omega)
  have cg : w.cell? ⟨g, n, none⟩ = some (.int .u32 (x : Int)) := hg3
  have hqn : (q : Int) - 1 = (n : Int) := by omega
  have i0 : (0 : Int) ≤ (n : Int) := by omega
  have i1 : (n : Int) < (q : Int) := by omega
  unfold maxLen at hom
  obtain ⟨B1, O1⟩ := HB0.out.set 597 (.slice (some ⟨g, 0, none⟩) n oc) (set_stk u S _ (.slice (some ⟨g, 0, none⟩) n oc) m r) rfl rfl
  have ST1 := Lib.hid (stk_set HB0.out 597 (.slice (some ⟨g, 0, none⟩) n oc) ST0.out)
  have HB1 := Lib.hid B1; have HO1 := Lib.hid O1
  clear h hst hn hg3 hg4 ST0 HB0 B1 O1 hs hq
  go_enter Tryz.func78, Tryz.ntmps78
  go_wp2_with fail
  go_ret
  have e := HN.out
  exact ⟨rfl, ⟨_, ⟨HB1.out, by rw [← e]; exact ST1.out, HOK.out, by show r.length ≤ 16; omega, hmo⟩, rfl⟩, HO1.out⟩
end Go.Proofs.YtdlpgoackmgdkaaGreatDoor
/- The document's machine: sum, there, load, store. -/
namespace Go.Proofs.YtdlpgoackmgdkaaGreatDoor
open Go.RowKit
set_option linter.unusedVariables false
set_option linter.unusedSimpArgs false
theorem truth_any (b : Bool) (w : World) : Calls Tryz.prog 98 #[.bool b] w fun e w' => e = .returned (.int .u32 (if b then 1 else 0)) ∧ w' = w := by
  cases b
  all_goals
    go_enter Tryz.func98, Tryz.ntmps98
    go_wp2_with fail
    go_ret
    exact ⟨rfl, rfl⟩
set_option maxRecDepth 100000 in
set_option maxHeartbeats 4000000 in
theorem sum_any (p : Value) (op x y z : Nat) (w : World) (hx : x < 4294967296) (hy : y < 4294967296) (hz : Sum2 op x y z) :
    Calls Tryz.prog 79 #[p, .int .u8 (op : Int), .int .u32 (x : Int), .int .u32 (y : Int)] w fun e w' => e = .returned (.int .u32 (z : Int)) ∧ w' = w := by
  cases hz with
  | add =>
    have e : ((x : Int) + (y : Int)) % 4294967296 = (((x + y) % 4294967296 : Nat) : Int) := by omega
    go_enter Tryz.func79, Tryz.ntmps79
    go_wp2_with fail
    go_ret
    exact ⟨rfl, rfl⟩
  | sub =>
    obtain ⟨z, hz⟩ : ∃ z, z = (x + (4294967296 - y)) % 4294967296 := ⟨_, rfl⟩
    have e : ((x : Int) - (y : Int)) % 4294967296 = (z : Int) := by omega
    rw [← hz]
    clear hz
    go_enter Tryz.func79, Tryz.ntmps79
    go_wp2_with fail
    go_ret
    exact ⟨congrArg (fun v => Ending.returned (Value.int .u32 v)) e, rfl⟩
  | mul =>
    have e : ((x : Int) * (y : Int)) % 4294967296 = ((x * y % 4294967296 : Nat) : Int) := by rw [Int.natCast_emod, Int.natCast_mul]; rfl
    go_enter Tryz.func79, Tryz.ntmps79
    go_wp2_with fail
    go_ret
    exact ⟨rfl, rfl⟩
  | rem _ _ h0 =>
    have t1 : ((y : Int) == 0) = false := beq_eq_false_iff_ne.2 (by omega)
    have h1 : (y : Int) ≠ 0 := by omega
    have e : (x : Int) % (y : Int) = ((x % y : Nat) : Int) := rfl
    go_enter Tryz.func79, Tryz.ntmps79
    go_wp2_with fail
    go_ret
    exact ⟨rfl, rfl⟩
  | and =>
    have e := u32_and_nat x y hx hy
    go_enter Tryz.func79, Tryz.ntmps79
    go_wp2_with fail
    go_ret
    exact ⟨rfl, rfl⟩
  | or =>
    have e := u32_or_nat x y hx hy
    go_enter Tryz.func79, Tryz.ntmps79
    go_wp2_with fail
    go_ret
    exact ⟨rfl, rfl⟩
  | xor =>
    have e := u32_xor_nat x y hx hy
    go_enter Tryz.func79, Tryz.ntmps79
    go_wp2_with fail
    go_ret
    exact ⟨rfl, rfl⟩
  | shl =>
    have e : (x : Int) * 2 ^ (y % 32) % 4294967296 = ((x * 2 ^ (y % 32) % 4294967296 : Nat) : Int) := by rw [Int.natCast_emod, Int.natCast_mul, Int.natCast_pow]; rfl
    go_enter Tryz.func79, Tryz.ntmps79
    go_wp2_with fail
    go_ret
    exact ⟨rfl, rfl⟩
  | shr =>
    have e : (x : Int) / 2 ^ (y % 32) = ((x / 2 ^ (y % 32) : Nat) : Int) := by rw [Int.natCast_ediv, Int.natCast_pow]; rfl
    go_enter Tryz.func79, Tryz.ntmps79
    go_wp2_with fail
    go_ret
    exact ⟨rfl, rfl⟩
  | eq =>
    by_cases h : x = y
    · have t1 : ((x : Int) == (y : Int)) = true := beq_iff_eq.2 (by omega)
      rw [if_pos h]
      go_enter Tryz.func79, Tryz.ntmps79
      go_wp2_with fail
      refine (truth_any true _).mono ?_
      rintro e' w' ⟨rfl, rfl⟩
      go_wp2_with fail
      go_ret
      exact ⟨rfl, rfl⟩
    · have t1 : ((x : Int) == (y : Int)) = false := beq_eq_false_iff_ne.2 (by omega)
      rw [if_neg h]
      go_enter Tryz.func79, Tryz.ntmps79
      go_wp2_with fail
      refine (truth_any false _).mono ?_
      rintro e' w' ⟨rfl, rfl⟩
      go_wp2_with fail
      go_ret
      exact ⟨rfl, rfl⟩
  | less =>
    by_cases h : x < y
    · have t1 : decide ((x : Int) < (y : Int)) = true := decide_eq_true (by omega)
      rw [if_pos h]
      go_enter Tryz.func79, Tryz.ntmps79
      go_wp2_with fail
      refine (truth_any true _).mono ?_
      rintro e' w' ⟨rfl, rfl⟩
      go_wp2_with fail
      go_ret
      exact ⟨rfl, rfl⟩
    · have t1 : decide ((x : Int) < (y : Int)) = false := decide_eq_false (by omega)
      rw [if_neg h]
      go_enter Tryz.func79, Tryz.ntmps79
      go_wp2_with fail
      refine (truth_any false _).mono ?_
      rintro e' w' ⟨rfl, rfl⟩
      go_wp2_with fail
      go_ret
      exact ⟨rfl, rfl⟩
set_option maxRecDepth 100000 in
set_option maxHeartbeats 4000000 in
theorem there_any (u : Mb) (S : MS) (sv : Value) (m : Nat) (dv : Nat → Nat) (at_ : Nat) (w : World) (h : MA w u S sv m dv) (h1 : S.base ≤ at_) (h2 : at_ + 4 ≤ S.base + S.dn) (h3 : at_ < 4294967296) :
    Calls Tryz.prog 99 #[.pointer (some ⟨u.b, 0, none⟩), .int .u32 (at_ : Int), .int .u32 4] w fun e w' => e = .returned (.bool true) ∧ w' = w := by
  have hb := h.ok.base
  have c0 : w.cell? ⟨u.b, 0, none⟩ = some (.int .u32 (S.base : Int)) := h.mb.row.cell (i := 0) (by omega)
  have c1 : w.cell? ⟨u.b, 1, none⟩ = some (.slice (some ⟨u.db, 0, none⟩) S.dn u.dc) := h.mb.row.cell (i := 1) (by omega)
  clear h
  generalize S.base = base at *
  generalize S.dn = n at *
  have t1 : decide ((at_ : Int) - (base : Int) < 0) = false := decide_eq_false (by omega)
  have t2 : decide ((n : Int) < (at_ : Int) - (base : Int) + 4) = false := decide_eq_false (by omega)
  go_enter Tryz.func99, Tryz.ntmps99
  go_wp2_with fail
  go_ret
  exact ⟨rfl, rfl⟩
def sumD (d : Nat → Nat) (i : Nat) : Nat → Nat
  | 0 => 0
  | k + 1 => sumD d i k + d (i + k) * 256 ^ k
theorem sumD4 (d : Nat → Nat) (i : Nat) : sumD d i 4 = wordD d i := by
  unfold wordD
  simp [sumD]
theorem sumD_le (d : Nat → Nat) (h : ∀ j, d j < 256) (i : Nat) : sumD d i 1 < 256 ∧ sumD d i 2 < 65536 ∧ sumD d i 3 < 16777216 ∧ sumD d i 4 < 4294967296 := by
  have h0 := h i; have h1 := h (i + 1); have h2 := h (i + 2); have h3 := h (i + 3)
  simp [sumD]; omega
set_option maxRecDepth 100000 in
set_option maxHeartbeats 400000 in
theorem load_any (u : Mb) (S : MS) (sv : Value) (m : Nat) (dv : Nat → Nat) (j : Nat) (w : World) (h : MA w u S sv m dv) (h2 : j + 4 ≤ S.dn) (h3 : S.base + j + 4 ≤ 4294967296) :
    Calls Tryz.prog 80 #[.pointer (some ⟨u.b, 0, none⟩), .int .u32 ((S.base + j : Nat) : Int), .int .u32 4] w fun e w' => e = .returned (.int .u32 (wordD S.data j : Int)) ∧ Below w.heap.size w w' := by
  have hb := h.ok.base
  have HT := Lib.hid (there_any u S sv m dv (S.base + j) w h (by omega) (by omega) (by omega))
  have HD : Hid (∀ i, S.data i < 256) := h.ok.data
  have HM := Lib.hid h
  obtain ⟨a_, ha⟩ : ∃ a, a = S.base + j := ⟨_, rfl⟩
  rw [← ha] at HT h3 ⊢
  have h4 : a_ < 4294967296 := by omega
  have h5 : j + 4 ≤ 4294967296 := by omega
  have HLT : Hid (sumD S.data j 1 < 256 ∧ sumD S.data j 2 < 65536 ∧ sumD S.data j 3 < 16777216 ∧ sumD S.data j 4 < 4294967296) := sumD_le _ h.ok.data j
  have E1 : Hid (((a_ : Int) - (S.base : Int)) % 4294967296 = (j : Int)) := by show _ = _; omega
  clear ha h
  go_enter Tryz.func80, Tryz.ntmps80
  go_wp2_with fail
  refine HT.out.mono ?_
  rintro e' w' ⟨rfl, rfl⟩
  clear HT
  have B0 : Hid (Below w'.heap.size w' w') := Below.refl _ _
  go_wp2_with fail
  go_loopw [7, 8] (fun x i wr => ∃ k : Nat, k ≤ 4 ∧ i = .int .u32 (k : Int) ∧ x = .int .u32 (sumD S.data j k : Int) ∧ Hid (Below w'.heap.size w' wr)) (fun x i _ => 4 - (intOf i).toNat)
  case atStart => exact ⟨0, by omega, rfl, rfl, B0⟩
  case round =>
    obtain ⟨k, hk, rfl, rfl, BB⟩ := hrel
    have HR := Lib.hid (HM.out.below BB.out)
    rcases (by omega : k = 4 ∨ k = 0 ∨ k = 1 ∨ k = 2 ∨ k = 3) with rfl | rfl | rfl | rfl | rfl
    · have e4 := sumD4 S.data j
      rw [e4]
      clear e4
      go_wp2_with fail
      go_ret
      exact ⟨rfl, BB.out⟩
    · skip
      obtain ⟨d, hd⟩ : ∃ d, d = S.data (j) := ⟨_, rfl⟩
      obtain ⟨X, hX⟩ : ∃ X, X = sumD S.data j 0 := ⟨_, rfl⟩
      obtain ⟨X2, hX2⟩ : ∃ X2, X2 = sumD S.data j 1 := ⟨_, rfl⟩
      have hX2' : X2 = X + d * 1 := by rw [hX2, hX, hd]; rfl
      have hlt : X2 < 4294967296 := by have := HLT.out; rw [hX2]; omega
      have cD : wr.cell? ⟨u.db, j, none⟩ = some (.int .u8 (d : Int)) := by rw [hd]; exact HR.out.mb.data.cell (by omega)
      have c0 : wr.cell? ⟨u.b, 0, none⟩ = some (.int .u32 (S.base : Int)) := HR.out.mb.row.cell (i := 0) (by omega)
      have c1 : wr.cell? ⟨u.b, 1, none⟩ = some (.slice (some ⟨u.db, 0, none⟩) S.dn u.dc) := HR.out.mb.row.cell (i := 1) (by omega)
      rw [← hX]
      have hd256 : d < 256 := by rw [hd]; exact HD.out _
      have i0 : (0 : Int) ≤ (j : Int) := by omega
      have i1 : (j : Int) < (S.dn : Int) := by omega
      have e3 : ((X : Int) + (d : Int) * 1) % 4294967296 = (X2 : Int) := by omega
      have e4 : ((X : Int) + (d : Int) * 1 % 4294967296) % 4294967296 = (X2 : Int) := by omega
      have e5 : (d : Int) % 4294967296 = (d : Int) := by omega
      have e6 : (X : Int) + (d : Int) * 1 = (X2 : Int) := by omega
      have HX2 := Lib.hid hX2
      clear hd hX hX2 hX2'
      go_wp2_with fail
      refine wp_region_quiet_lit (by kernel_rfl) (by kernel_rfl) ?_
      iterate 11 (go_big_quiet_step (fail))
      rw [E1.out]
      repeat (go_big_quiet_step (fail))
      refine wpQuiet_nil ?_
      intro _ hw'
      obtain ⟨nq, hw''⟩ := hw'
      subst hw''
      have BQ : Hid (Below w'.heap.size w' (wr.drewN nq)) := ⟨BB.out.os, BB.out.tape, BB.out.output, BB.out.size, BB.out.block⟩
      generalize wr.drewN nq = w2 at *
      clear cD c0 c1 HR BB
      go_wp2_with fail
      refine ⟨⟨1, by omega, by go_num, by rw [← HX2.out]; try go_num, BQ⟩, ?_⟩
      simp [intOf]
    · skip
      obtain ⟨d, hd⟩ : ∃ d, d = S.data (j + 1) := ⟨_, rfl⟩
      obtain ⟨X, hX⟩ : ∃ X, X = sumD S.data j 1 := ⟨_, rfl⟩
      obtain ⟨X2, hX2⟩ : ∃ X2, X2 = sumD S.data j 2 := ⟨_, rfl⟩
      have hX2' : X2 = X + d * 256 := by rw [hX2, hX, hd]; rfl
      have hlt : X2 < 4294967296 := by have := HLT.out; rw [hX2]; omega
      have cD : wr.cell? ⟨u.db, j + 1, none⟩ = some (.int .u8 (d : Int)) := by rw [hd]; exact HR.out.mb.data.cell (by omega)
      have c0 : wr.cell? ⟨u.b, 0, none⟩ = some (.int .u32 (S.base : Int)) := HR.out.mb.row.cell (i := 0) (by omega)
      have c1 : wr.cell? ⟨u.b, 1, none⟩ = some (.slice (some ⟨u.db, 0, none⟩) S.dn u.dc) := HR.out.mb.row.cell (i := 1) (by omega)
      rw [← hX]
      have hd256 : d < 256 := by rw [hd]; exact HD.out _
      have i0 : (0 : Int) ≤ (j : Int) + 1 := by omega
      have i1 : (j : Int) + 1 < (S.dn : Int) := by omega
      have e3 : ((X : Int) + (d : Int) * 256) % 4294967296 = (X2 : Int) := by omega
      have e4 : ((X : Int) + (d : Int) * 256 % 4294967296) % 4294967296 = (X2 : Int) := by omega
      have e5 : (d : Int) % 4294967296 = (d : Int) := by omega
      have e6 : (X : Int) + (d : Int) * 256 = (X2 : Int) := by omega
      have HX2 := Lib.hid hX2
      clear hd hX hX2 hX2'
      go_wp2_with fail
      refine wp_region_quiet_lit (by kernel_rfl) (by kernel_rfl) ?_
      iterate 11 (go_big_quiet_step (fail))
      rw [E1.out]
      repeat (go_big_quiet_step (fail))
      refine wpQuiet_nil ?_
      intro _ hw'
      obtain ⟨nq, hw''⟩ := hw'
      subst hw''
      have BQ : Hid (Below w'.heap.size w' (wr.drewN nq)) := ⟨BB.out.os, BB.out.tape, BB.out.output, BB.out.size, BB.out.block⟩
      generalize wr.drewN nq = w2 at *
      clear cD c0 c1 HR BB
      go_wp2_with fail
      refine ⟨⟨2, by omega, by go_num, by rw [← HX2.out]; try go_num, BQ⟩, ?_⟩
      simp [intOf]
    · skip
      obtain ⟨d, hd⟩ : ∃ d, d = S.data (j + 2) := ⟨_, rfl⟩
      obtain ⟨X, hX⟩ : ∃ X, X = sumD S.data j 2 := ⟨_, rfl⟩
      obtain ⟨X2, hX2⟩ : ∃ X2, X2 = sumD S.data j 3 := ⟨_, rfl⟩
      have hX2' : X2 = X + d * 65536 := by rw [hX2, hX, hd]; rfl
      have hlt : X2 < 4294967296 := by have := HLT.out; rw [hX2]; omega
      have cD : wr.cell? ⟨u.db, j + 2, none⟩ = some (.int .u8 (d : Int)) := by rw [hd]; exact HR.out.mb.data.cell (by omega)
      have c0 : wr.cell? ⟨u.b, 0, none⟩ = some (.int .u32 (S.base : Int)) := HR.out.mb.row.cell (i := 0) (by omega)
      have c1 : wr.cell? ⟨u.b, 1, none⟩ = some (.slice (some ⟨u.db, 0, none⟩) S.dn u.dc) := HR.out.mb.row.cell (i := 1) (by omega)
      rw [← hX]
      have hd256 : d < 256 := by rw [hd]; exact HD.out _
      have i0 : (0 : Int) ≤ (j : Int) + 2 := by omega
      have i1 : (j : Int) + 2 < (S.dn : Int) := by omega
      have e3 : ((X : Int) + (d : Int) * 65536) % 4294967296 = (X2 : Int) := by omega
      have e4 : ((X : Int) + (d : Int) * 65536 % 4294967296) % 4294967296 = (X2 : Int) := by omega
      have e5 : (d : Int) % 4294967296 = (d : Int) := by omega
      have e6 : (X : Int) + (d : Int) * 65536 = (X2 : Int) := by omega
      have HX2 := Lib.hid hX2
      clear hd hX hX2 hX2'
      go_wp2_with fail
      refine wp_region_quiet_lit (by kernel_rfl) (by kernel_rfl) ?_
      iterate 11 (go_big_quiet_step (fail))
      rw [E1.out]
      repeat (go_big_quiet_step (fail))
      refine wpQuiet_nil ?_
      intro _ hw'
      obtain ⟨nq, hw''⟩ := hw'
      subst hw''
      have BQ : Hid (Below w'.heap.size w' (wr.drewN nq)) := ⟨BB.out.os, BB.out.tape, BB.out.output, BB.out.size, BB.out.block⟩
      generalize wr.drewN nq = w2 at *
      clear cD c0 c1 HR BB
      go_wp2_with fail
      refine ⟨⟨3, by omega, by go_num, by rw [← HX2.out]; try go_num, BQ⟩, ?_⟩
      simp [intOf]
    · skip
      obtain ⟨d, hd⟩ : ∃ d, d = S.data (j + 3) := ⟨_, rfl⟩
      obtain ⟨X, hX⟩ : ∃ X, X = sumD S.data j 3 := ⟨_, rfl⟩
      obtain ⟨X2, hX2⟩ : ∃ X2, X2 = sumD S.data j 4 := ⟨_, rfl⟩
      have hX2' : X2 = X + d * 16777216 := by rw [hX2, hX, hd]; rfl
      have hlt : X2 < 4294967296 := by have := HLT.out; rw [hX2]; omega
      have cD : wr.cell? ⟨u.db, j + 3, none⟩ = some (.int .u8 (d : Int)) := by rw [hd]; exact HR.out.mb.data.cell (by omega)
      have c0 : wr.cell? ⟨u.b, 0, none⟩ = some (.int .u32 (S.base : Int)) := HR.out.mb.row.cell (i := 0) (by omega)
      have c1 : wr.cell? ⟨u.b, 1, none⟩ = some (.slice (some ⟨u.db, 0, none⟩) S.dn u.dc) := HR.out.mb.row.cell (i := 1) (by omega)
      rw [← hX]
      have hd256 : d < 256 := by rw [hd]; exact HD.out _
      have i0 : (0 : Int) ≤ (j : Int) + 3 := by omega
      have i1 : (j : Int) + 3 < (S.dn : Int) := by omega
      have e3 : ((X : Int) + (d : Int) * 16777216) % 4294967296 = (X2 : Int) := by omega
      have e4 : ((X : Int) + (d : Int) * 16777216 % 4294967296) % 4294967296 = (X2 : Int) := by omega
      have e5 : (d : Int) % 4294967296 = (d : Int) := by omega
      have e6 : (X : Int) + (d : Int) * 16777216 = (X2 : Int) := by omega
      have HX2 := Lib.hid hX2
      clear hd hX hX2 hX2'
      go_wp2_with fail
      refine wp_region_quiet_lit (by kernel_rfl) (by kernel_rfl) ?_
      iterate 11 (go_big_quiet_step (fail))
      rw [E1.out]
      repeat (go_big_quiet_step (fail))
      refine wpQuiet_nil ?_
      intro _ hw'
      obtain ⟨nq, hw''⟩ := hw'
      subst hw''
      have BQ : Hid (Below w'.heap.size w' (wr.drewN nq)) := ⟨BB.out.os, BB.out.tape, BB.out.output, BB.out.size, BB.out.block⟩
      generalize wr.drewN nq = w2 at *
      clear cD c0 c1 HR BB
      go_wp2_with fail
      refine ⟨⟨4, by omega, by go_num, by rw [← HX2.out]; try go_num, BQ⟩, ?_⟩
      simp [intOf]
end Go.Proofs.YtdlpgoackmgdkaaGreatDoor
/- The document's machine: store. -/
namespace Go.Proofs.YtdlpgoackmgdkaaGreatDoor
open Go.RowKit
set_option linter.unusedVariables false
set_option linter.unusedSimpArgs false
theorem machV_data (u : Mb) (S : MS) (sv : Value) (m : Nat) (d : Nat → Nat) : machV u { S with data := d } sv m = machV u S sv m := rfl
/-- A byte of the data is turned. -/
theorem MA.setData {w : World} {u : Mb} {S : MS} {sv : Value} {m : Nat} {dv : Nat → Nat} (h : MA w u S sv m dv) (i v : Nat) (hv : v < 256) (d' : Nat → Nat) (hd : ∀ j, d' j = if j = i then v else S.data j) :
    MA (w.setCell ⟨u.db, i, none⟩ (.int .u8 (v : Int))) u { S with data := d' } sv m dv ∧ Only (MM u) w (w.setCell ⟨u.db, i, none⟩ (.int .u8 (v : Int))) :=
  have ho : Only (MM u) w (w.setCell ⟨u.db, i, none⟩ (.int .u8 (v : Int))) := (Only.refl _ w).set _ _ (.inr (.inr (.inl rfl)))
  have oth : ∀ k, k ≠ u.db → (w.setCell ⟨u.db, i, none⟩ (.int .u8 (v : Int))).heap[k]? = w.heap[k]? := fun k hk => heap_setCell_other _ _ _ _ hk
  have a := h.mb.ap
  ⟨⟨⟨h.mb.row.same (oth _ a.2.2.2.1), (h.mb.data.set (.int .u8 (v : Int))).congr fun j _ => by
      show (if j = i then _ else _) = Value.int .u8 ((d' j : Nat) : Int)
      rw [hd j]; split <;> rfl, h.mb.done.same (oth _ (fun e => a.2.2.2.2.2 e.symm)), a, Nat.le_trans h.mb.lo ho.size, h.mb.cap⟩,
    stk_same h.stk fun g hg _ => oth g (fun e => by have := a.2.1; omega), ⟨h.ok.base, fun j => by show d' j < 256; rw [hd j]; split; (· exact hv); (· exact h.ok.data j), h.ok.ins, h.ok.ports, h.ok.ages, h.ok.outs, h.ok.puts, h.ok.stack⟩, h.len, h.most⟩, ho⟩
def putK (d : Nat → Nat) (j x k : Nat) : Nat → Nat := fun i => if j ≤ i ∧ i < j + k then x / 256 ^ (i - j) % 256 else d i
theorem putK0 (d : Nat → Nat) (j x : Nat) : putK d j x 0 = d := by funext i; unfold putK; rw [if_neg (by omega)]
theorem putK_succ (d : Nat → Nat) (j x k : Nat) : ∀ i, putK d j x (k + 1) i = if i = j + k then x / 256 ^ k % 256 else putK d j x k i := fun i => by
  unfold putK
  by_cases e : i = j + k
  · rw [if_pos e, if_pos (by omega), show i - j = k by omega]
  · rw [if_neg e]
    by_cases h : j ≤ i ∧ i < j + k
    · rw [if_pos h, if_pos (by omega)]
    · rw [if_neg h, if_neg (by omega)]
theorem putK4 (d : Nat → Nat) (j x : Nat) : putK d j x 4 = putD d j x := by
  funext i
  unfold putK putD
  by_cases h : j ≤ i ∧ i < j + 4
  · rw [if_pos h]
    rcases (by omega : i = j ∨ i = j + 1 ∨ i = j + 2 ∨ i = j + 3) with rfl | rfl | rfl | rfl
    · simp
    · rw [if_neg (by omega), if_pos rfl, show j + 1 - j = 1 by omega]
    · rw [if_neg (by omega), if_neg (by omega), if_pos rfl, show j + 2 - j = 2 by omega]
    · rw [if_neg (by omega), if_neg (by omega), if_neg (by omega), if_pos rfl, show j + 3 - j = 3 by omega]
  · rw [if_neg h, if_neg (by omega), if_neg (by omega), if_neg (by omega), if_neg (by omega)]
set_option maxRecDepth 100000 in
set_option maxHeartbeats 4000000 in
theorem store_any (u : Mb) (S : MS) (sv : Value) (m : Nat) (dv : Nat → Nat) (j x : Nat) (w : World) (h : MA w u S sv m dv) (hx : x < 4294967296) (h2 : j + 4 ≤ S.dn) (h3 : S.base + j + 4 ≤ 4294967296) :
    Calls Tryz.prog 81 #[.pointer (some ⟨u.b, 0, none⟩), .int .u32 ((S.base + j : Nat) : Int), .int .u32 4, .int .u32 (x : Int)] w fun e w' => e = .returned (.tuple #[]) ∧ MA w' u { S with data := putD S.data j x } sv m dv ∧ Only (MM u) w w' := by
  have hb := h.ok.base
  have HT := Lib.hid (there_any u S sv m dv (S.base + j) w h (by omega) (by omega) (by omega))
  have HM : Hid (MA w u { S with data := putK S.data j x 0 } sv m dv) := by show MA _ _ _ _ _ _; rw [putK0]; exact h
  obtain ⟨a_, ha⟩ : ∃ a, a = S.base + j := ⟨_, rfl⟩
  rw [← ha] at HT h3 ⊢
  have h4 : a_ < 4294967296 := by omega
  have h5 : j + 4 ≤ 4294967296 := by omega
  have E1 : Hid (((a_ : Int) - (S.base : Int)) % 4294967296 = (j : Int)) := by show _ = _; omega
  clear ha h
  go_enter Tryz.func81, Tryz.ntmps81
  go_wp2_with fail
  refine HT.out.mono ?_
  rintro e' w' ⟨rfl, rfl⟩
  clear HT
  have B0 : Hid (Only (MM u) w' w') := Only.refl _ _
  go_wp2_with fail
  go_loopw [8] (fun i wr => ∃ k : Nat, k ≤ 4 ∧ i = .int .u32 (k : Int) ∧ Hid (MA wr u { S with data := putK S.data j x k } sv m dv) ∧ Hid (Only (MM u) w' wr)) (fun i _ => 4 - (intOf i).toNat)
  case atStart => exact ⟨0, by omega, rfl, HM, B0⟩
  case round =>
    clear HM B0
    obtain ⟨k, hk, rfl, HR, HO⟩ := hrel
    rcases (by omega : k = 4 ∨ k = 0 ∨ k = 1 ∨ k = 2 ∨ k = 3) with rfl | rfl | rfl | rfl | rfl
    · go_wp2_with fail
      go_end0
      exact ⟨rfl, by have := HR.out; rw [putK4] at this; exact this, HO.out⟩
    · skip
      obtain ⟨v, hv⟩ : ∃ v, v = x / 256 ^ 0 % 256 := ⟨_, rfl⟩
      have hv2 : v < 256 := by omega
      have hvx : (x : Int) % 256 = (v : Int) := by rw [hv]; simp only [Nat.reducePow]; omega
      have c0 : wr.cell? ⟨u.b, 0, none⟩ = some (.int .u32 (S.base : Int)) := HR.out.mb.row.cell (i := 0) (by omega)
      have c1 : wr.cell? ⟨u.b, 1, none⟩ = some (.slice (some ⟨u.db, 0, none⟩) S.dn u.dc) := HR.out.mb.row.cell (i := 1) (by omega)
      have i0 : (0 : Int) ≤ (j : Int) := by omega
      have i1 : (j : Int) < (S.dn : Int) := by omega
      have HV := Lib.hid hv
      clear hv
      go_wp2_with fail
      obtain ⟨U, fU, hUn, hU1, hU2⟩ := class_of (fun V => Below wr.heap.size wr V) (W := wr.drew) ⟨rfl, rfl, rfl, Nat.le_refl _, fun _ _ => rfl⟩
      have HU1 := Lib.hid hU1; have HU2 := Lib.hid hU2
      clear hU1 hU2
      have hfm : (Tryz.prog).follows .mixedOrders = true := by kernel_rfl
      obtain ⟨q, hd1⟩ : ∃ q : Nat, 1 ≤ q := ⟨1, Nat.le_refl _⟩
      have hb1 := HR.out.mb.row.lt
      have z0 := fun uu => ((HU1.out uu).cell hb1).trans c0
      have z1 := fun uu => ((HU1.out uu).cell hb1).trans c1
      clear hb1 c0 c1
      refine (wpIn_wide (n := q)).1 ?_
      refine wpIn_region_tail_at 18 fU hfm rfl (by kernel_rfl) (HU2.out _ ⟨rfl, rfl, rfl, Nat.le_refl _, fun _ _ => rfl⟩) ?_
      simp only [List.take_succ_cons, List.take_zero, List.getD_cons_succ, List.getD_cons_zero]
      iterate 10 (gi_big_quiet_step (fail))
      rw [E1.out]
      repeat (gi_big_quiet_step (fail))
      refine wpQuietIn_nil ?_
      intro uu
      have R2 := Lib.hid (HR.out.below (HU1.out uu))
      have O2 := Lib.hid (HO.out.trans (Only.of_below _ (HU1.out uu)))
      clear z0 z1 HU1 HU2 HR HO
      generalize fU uu = w3 at *
      have cD : w3.cell? ⟨u.db, j, none⟩ = some (.int .u8 (putK S.data j x 0 (j) : Int)) := R2.out.mb.data.cell (by show j < S.dn; omega)
      have fr : w3.frozen? ⟨u.db, j, none⟩ = false := R2.out.mb.data.frozen _
      obtain ⟨R3, O3⟩ := R2.out.setData (j) v hv2 (putK S.data j x 1) (fun i => by rw [HV.out]; exact putK_succ S.data j x 0 i)
      have HR3 := Lib.hid R3; have HO3 := Lib.hid (O2.out.trans O3)
      clear R3 O3 R2 O2
      unfold Oper.wpIn
      go_simp
      generalize w3.setCell ⟨u.db, j, none⟩ (.int .u8 (v : Int)) = w4 at *
      clear cD fr
      go_wp2_with fail
      refine ⟨⟨1, by omega, by go_num, HR3, HO3⟩, ?_⟩
      simp [intOf]
    · skip
      obtain ⟨v, hv⟩ : ∃ v, v = x / 256 ^ 1 % 256 := ⟨_, rfl⟩
      have hv2 : v < 256 := by omega
      have hvx : (x : Int) / 256 % 256 = (v : Int) := by rw [hv]; simp only [Nat.reducePow]; omega
      have c0 : wr.cell? ⟨u.b, 0, none⟩ = some (.int .u32 (S.base : Int)) := HR.out.mb.row.cell (i := 0) (by omega)
      have c1 : wr.cell? ⟨u.b, 1, none⟩ = some (.slice (some ⟨u.db, 0, none⟩) S.dn u.dc) := HR.out.mb.row.cell (i := 1) (by omega)
      have i0 : (0 : Int) ≤ (j : Int) + 1 := by omega
      have i1 : (j : Int) + 1 < (S.dn : Int) := by omega
      have HV := Lib.hid hv
      clear hv
      go_wp2_with fail
      obtain ⟨U, fU, hUn, hU1, hU2⟩ := class_of (fun V => Below wr.heap.size wr V) (W := wr.drew) ⟨rfl, rfl, rfl, Nat.le_refl _, fun _ _ => rfl⟩
      have HU1 := Lib.hid hU1; have HU2 := Lib.hid hU2
      clear hU1 hU2
      have hfm : (Tryz.prog).follows .mixedOrders = true := by kernel_rfl
      obtain ⟨q, hd1⟩ : ∃ q : Nat, 1 ≤ q := ⟨1, Nat.le_refl _⟩
      have hb1 := HR.out.mb.row.lt
      have z0 := fun uu => ((HU1.out uu).cell hb1).trans c0
      have z1 := fun uu => ((HU1.out uu).cell hb1).trans c1
      clear hb1 c0 c1
      refine (wpIn_wide (n := q)).1 ?_
      refine wpIn_region_tail_at 18 fU hfm rfl (by kernel_rfl) (HU2.out _ ⟨rfl, rfl, rfl, Nat.le_refl _, fun _ _ => rfl⟩) ?_
      simp only [List.take_succ_cons, List.take_zero, List.getD_cons_succ, List.getD_cons_zero]
      iterate 10 (gi_big_quiet_step (fail))
      rw [E1.out]
      repeat (gi_big_quiet_step (fail))
      refine wpQuietIn_nil ?_
      intro uu
      have R2 := Lib.hid (HR.out.below (HU1.out uu))
      have O2 := Lib.hid (HO.out.trans (Only.of_below _ (HU1.out uu)))
      clear z0 z1 HU1 HU2 HR HO
      generalize fU uu = w3 at *
      have cD : w3.cell? ⟨u.db, j + 1, none⟩ = some (.int .u8 (putK S.data j x 1 (j + 1) : Int)) := R2.out.mb.data.cell (by show j + 1 < S.dn; omega)
      have fr : w3.frozen? ⟨u.db, j + 1, none⟩ = false := R2.out.mb.data.frozen _
      obtain ⟨R3, O3⟩ := R2.out.setData (j + 1) v hv2 (putK S.data j x 2) (fun i => by rw [HV.out]; exact putK_succ S.data j x 1 i)
      have HR3 := Lib.hid R3; have HO3 := Lib.hid (O2.out.trans O3)
      clear R3 O3 R2 O2
      unfold Oper.wpIn
      go_simp
      generalize w3.setCell ⟨u.db, j + 1, none⟩ (.int .u8 (v : Int)) = w4 at *
      clear cD fr
      go_wp2_with fail
      refine ⟨⟨2, by omega, by go_num, HR3, HO3⟩, ?_⟩
      simp [intOf]
    · skip
      obtain ⟨v, hv⟩ : ∃ v, v = x / 256 ^ 2 % 256 := ⟨_, rfl⟩
      have hv2 : v < 256 := by omega
      have hvx : (x : Int) / 65536 % 256 = (v : Int) := by rw [hv]; simp only [Nat.reducePow]; omega
      have c0 : wr.cell? ⟨u.b, 0, none⟩ = some (.int .u32 (S.base : Int)) := HR.out.mb.row.cell (i := 0) (by omega)
      have c1 : wr.cell? ⟨u.b, 1, none⟩ = some (.slice (some ⟨u.db, 0, none⟩) S.dn u.dc) := HR.out.mb.row.cell (i := 1) (by omega)
      have i0 : (0 : Int) ≤ (j : Int) + 2 := by omega
      have i1 : (j : Int) + 2 < (S.dn : Int) := by omega
      have HV := Lib.hid hv
      clear hv
      go_wp2_with fail
      obtain ⟨U, fU, hUn, hU1, hU2⟩ := class_of (fun V => Below wr.heap.size wr V) (W := wr.drew) ⟨rfl, rfl, rfl, Nat.le_refl _, fun _ _ => rfl⟩
      have HU1 := Lib.hid hU1; have HU2 := Lib.hid hU2
      clear hU1 hU2
      have hfm : (Tryz.prog).follows .mixedOrders = true := by kernel_rfl
      obtain ⟨q, hd1⟩ : ∃ q : Nat, 1 ≤ q := ⟨1, Nat.le_refl _⟩
      have hb1 := HR.out.mb.row.lt
      have z0 := fun uu => ((HU1.out uu).cell hb1).trans c0
      have z1 := fun uu => ((HU1.out uu).cell hb1).trans c1
      clear hb1 c0 c1
      refine (wpIn_wide (n := q)).1 ?_
      refine wpIn_region_tail_at 18 fU hfm rfl (by kernel_rfl) (HU2.out _ ⟨rfl, rfl, rfl, Nat.le_refl _, fun _ _ => rfl⟩) ?_
      simp only [List.take_succ_cons, List.take_zero, List.getD_cons_succ, List.getD_cons_zero]
      iterate 10 (gi_big_quiet_step (fail))
      rw [E1.out]
      repeat (gi_big_quiet_step (fail))
      refine wpQuietIn_nil ?_
      intro uu
      have R2 := Lib.hid (HR.out.below (HU1.out uu))
      have O2 := Lib.hid (HO.out.trans (Only.of_below _ (HU1.out uu)))
      clear z0 z1 HU1 HU2 HR HO
      generalize fU uu = w3 at *
      have cD : w3.cell? ⟨u.db, j + 2, none⟩ = some (.int .u8 (putK S.data j x 2 (j + 2) : Int)) := R2.out.mb.data.cell (by show j + 2 < S.dn; omega)
      have fr : w3.frozen? ⟨u.db, j + 2, none⟩ = false := R2.out.mb.data.frozen _
      obtain ⟨R3, O3⟩ := R2.out.setData (j + 2) v hv2 (putK S.data j x 3) (fun i => by rw [HV.out]; exact putK_succ S.data j x 2 i)
      have HR3 := Lib.hid R3; have HO3 := Lib.hid (O2.out.trans O3)
      clear R3 O3 R2 O2
      unfold Oper.wpIn
      go_simp
      generalize w3.setCell ⟨u.db, j + 2, none⟩ (.int .u8 (v : Int)) = w4 at *
      clear cD fr
      go_wp2_with fail
      refine ⟨⟨3, by omega, by go_num, HR3, HO3⟩, ?_⟩
      simp [intOf]
    · skip
      obtain ⟨v, hv⟩ : ∃ v, v = x / 256 ^ 3 % 256 := ⟨_, rfl⟩
      have hv2 : v < 256 := by omega
      have hvx : (x : Int) / 16777216 = (v : Int) := by rw [hv]; simp only [Nat.reducePow]; omega
      have c0 : wr.cell? ⟨u.b, 0, none⟩ = some (.int .u32 (S.base : Int)) := HR.out.mb.row.cell (i := 0) (by omega)
      have c1 : wr.cell? ⟨u.b, 1, none⟩ = some (.slice (some ⟨u.db, 0, none⟩) S.dn u.dc) := HR.out.mb.row.cell (i := 1) (by omega)
      have i0 : (0 : Int) ≤ (j : Int) + 3 := by omega
      have i1 : (j : Int) + 3 < (S.dn : Int) := by omega
      have HV := Lib.hid hv
      clear hv
      go_wp2_with fail
      obtain ⟨U, fU, hUn, hU1, hU2⟩ := class_of (fun V => Below wr.heap.size wr V) (W := wr.drew) ⟨rfl, rfl, rfl, Nat.le_refl _, fun _ _ => rfl⟩
      have HU1 := Lib.hid hU1; have HU2 := Lib.hid hU2
      clear hU1 hU2
      have hfm : (Tryz.prog).follows .mixedOrders = true := by kernel_rfl
      obtain ⟨q, hd1⟩ : ∃ q : Nat, 1 ≤ q := ⟨1, Nat.le_refl _⟩
      have hb1 := HR.out.mb.row.lt
      have z0 := fun uu => ((HU1.out uu).cell hb1).trans c0
      have z1 := fun uu => ((HU1.out uu).cell hb1).trans c1
      clear hb1 c0 c1
      refine (wpIn_wide (n := q)).1 ?_
      refine wpIn_region_tail_at 18 fU hfm rfl (by kernel_rfl) (HU2.out _ ⟨rfl, rfl, rfl, Nat.le_refl _, fun _ _ => rfl⟩) ?_
      simp only [List.take_succ_cons, List.take_zero, List.getD_cons_succ, List.getD_cons_zero]
      iterate 10 (gi_big_quiet_step (fail))
      rw [E1.out]
      repeat (gi_big_quiet_step (fail))
      refine wpQuietIn_nil ?_
      intro uu
      have R2 := Lib.hid (HR.out.below (HU1.out uu))
      have O2 := Lib.hid (HO.out.trans (Only.of_below _ (HU1.out uu)))
      clear z0 z1 HU1 HU2 HR HO
      generalize fU uu = w3 at *
      have cD : w3.cell? ⟨u.db, j + 3, none⟩ = some (.int .u8 (putK S.data j x 3 (j + 3) : Int)) := R2.out.mb.data.cell (by show j + 3 < S.dn; omega)
      have fr : w3.frozen? ⟨u.db, j + 3, none⟩ = false := R2.out.mb.data.frozen _
      obtain ⟨R3, O3⟩ := R2.out.setData (j + 3) v hv2 (putK S.data j x 4) (fun i => by rw [HV.out]; exact putK_succ S.data j x 3 i)
      have HR3 := Lib.hid R3; have HO3 := Lib.hid (O2.out.trans O3)
      clear R3 O3 R2 O2
      unfold Oper.wpIn
      go_simp
      generalize w3.setCell ⟨u.db, j + 3, none⟩ (.int .u8 (v : Int)) = w4 at *
      clear cD fr
      go_wp2_with fail
      refine ⟨⟨4, by omega, by go_num, HR3, HO3⟩, ?_⟩
      simp [intOf]
end Go.Proofs.YtdlpgoackmgdkaaGreatDoor
