/- frame.At. -/
import Derived.Test.YthbieplfphignaaFraBase
namespace Go.Proofs.Ythbieplfphignaa
open Go.RowKit Go.Shelf
set_option linter.unusedVariables false
attribute [local go_sem] Oper.semAt_some
theorem wrapU64 (n : Int) : IntKind.u64.wrap n = n % 18446744073709551616 := by simp [IntKind.wrap, IntKind.bits, IntKind.signed]
def Held (W : World) (B : Nat) (cs : Array Value) (t : TypeId) : Prop := W.heap[B]? = some (.cells cs t (0, 0))
theorem Held.lt {W : World} {B : Nat} {cs : Array Value} {t : TypeId} (h : Held W B cs t) : B < W.heap.size := heap_lt h
theorem Held.cell {W : World} {B : Nat} {cs : Array Value} {t : TypeId} (h : Held W B cs t) (i : Nat) (v : Value) (hv : cs[i]? = some v) : W.cell? ⟨B, i, none⟩ = some v := cell_row h hv
theorem Held.frozen {W : World} {B : Nat} {cs : Array Value} {t : TypeId} (h : Held W B cs t) (i : Nat) : W.frozen? ⟨B, i, none⟩ = false := frozen_of_row _ _ _ _ _ h
theorem Held.kept {W W' : World} {row : Option Nat} {B : Nat} {cs : Array Value} {t : TypeId} (h : Held W B cs t) (hg : W.grownBy W' row) (hne : some B ≠ row) : Held W' B cs t := (hg.block B h.lt hne).trans h
theorem Held.alloc {W : World} {B : Nat} {cs : Array Value} {t : TypeId} (h : Held W B cs t) (o : Obj) : Held (W.alloc o) B cs t := h.kept (World.grownBy_alloc W o none) (by simp)
theorem Held.new (W : World) (cs : Array Value) (t : TypeId) : Held (W.alloc (.cells cs t)) W.heap.size cs t := World.alloc_heap_new W _
theorem Held.other {W : World} {B B' : Nat} {cs : Array Value} {t : TypeId} (h : Held W B cs t) (hne : B ≠ B') (o : Nat) (u : Value) : Held (W.setCell ⟨B', o, none⟩ u) B cs t := by
  unfold Held at *
  rw [heap_setCell_other _ _ _ _ hne]; exact h
theorem held_own {β : Type} (B : Nat) (cs : β → Array Value) (t : TypeId) : Own (fun s W => Held W B (cs s) t) := fun s X Y row hs hg hrow =>
  Held.kept hs hg (fun e' => by obtain ⟨o, ho, hc⟩ := hrow B e'.symm; rw [show X.heap[B]? = _ from hs] at ho; cases ho; cases hc)
theorem belowDrewN {B : Nat} {a w : World} {n : Nat} (h : Below B a w) : Below B a (w.drewN n) := ⟨h.os, h.tape, h.output, h.size, h.block⟩
theorem keepsDrewN (W : World) (n : Nat) : KeepsOthers W (W.drewN n) := ⟨Nat.le_refl _, fun _ _ h _ => h⟩
def atN (S : Nat → SlotR) (r : Nat) : Nat → Int
  | 0 => -1
  | n + 1 => if (S n).start ≤ r then (n : Int) else atN S r n
theorem atN_none {S : Nat → SlotR} {r n : Nat} (h : ∀ i, i < n → r < (S i).start) : atN S r n = -1 := by
  induction n with
  | zero => rfl
  | succ n ih => unfold atN; rw [if_neg (by have := h n (by omega); omega)]; exact ih fun i hi => h i (by omega)
theorem atN_some {S : Nat → SlotR} {r n k : Nat} (hk : k < n) (hs : (S k).start ≤ r) (h : ∀ i, k < i → i < n → r < (S i).start) : atN S r n = (k : Int) := by
  induction n with
  | zero => omega
  | succ n ih =>
    unfold atN
    by_cases e : k = n
    · subst e; rw [if_pos hs]
    · rw [if_neg (by have := h n (by omega) (by omega); omega)]; exact ih (by omega) fun i h1 h2 => h i h1 (by omega)
set_option maxRecDepth 100000 in
set_option maxHeartbeats 4000000 in
theorem at_zero (sw : Nat) (a : Option Addr) (len cap tick : Nat) (w : World) :
    Calls Try.prog 9 #[.agg #[.int .u32 0, .int .u32 (sw : Int), .slice a len cap], .int .u64 (tick : Int)] w fun e W' => e = .returned (.tuple #[.int .u64 0, .int .i64 (-1)]) ∧ Below w.heap.size w W' := by
  go_enter Try.func9, Try.ntmps9
  go_wp2_with fail
  have hc5 := cell_row (heap_alloc_new ((w.alloc (.cells #[.int .u32 0, .int .u32 (sw : Int), .slice a len cap] 25)).alloc (.cells #[.int .u64 (tick : Int)] 26)) (.cells #[.int .i64 (-1)] 3)) (show (#[Value.int .i64 (-1)] : Array Value)[0]? = _ from rfl)
  simp only [World.size_alloc] at hc5
  refine bodyPost_ret (v := .tuple #[.int .u64 0, .int .i64 (-1)]) ?_ rfl ?_
  · simp [results, Try.f9, go_sem, hc5]
  · exact ⟨rfl, (((Below.refl _ w).alloc (Nat.le_refl _) _).alloc (by simp) _).alloc (by simp; omega) _⟩
set_option maxRecDepth 100000 in
set_option maxHeartbeats 8000000 in
theorem at_in (F : Fence) (n : Nat) (h3 : F.fn 9) (h6 : F.fn 22) (h8 : F.fn 24) (hro : F.round = none) (hn : 3 ≤ n) (L sw : Nat) (a : Option Addr) (len cap : Nat) (S : Nat → SlotR) (tick : Nat) (w : World) (hm : len ≤ 9223372036854775807) (hL : L < 4294967296) (hL0 : 0 < L) (ht : tick < 18446744073709551616) (hS : SlotsAt w a len S) :
    CallsIn F n Try.prog 9 #[.agg #[.int .u32 (L : Int), .int .u32 (sw : Int), .slice a len cap], .int .u64 (tick : Int)] w fun e W' => e = .returned (.tuple #[.int .u64 ((tick / L : Nat) : Int), .int .i64 (atN S (tick % L) len)]) ∧ Below w.heap.size w W' := by
  have hfm : (Try.prog).follows .mixedOrders = true := by kernel_rfl
  have t0 : ((L : Int) == 0) = false := by simp; omega
  have hdiv : tick / L < 18446744073709551616 := Nat.lt_of_le_of_lt (Nat.div_le_self _ _) ht
  have hmod : tick % L < 4294967296 := Nat.lt_trans (Nat.mod_lt _ hL0) hL
  have h1 : 1 ≤ n := by omega
  have hq : Hid (IntKind.u64.wrap ((tick : Int) / (L : Int)) = ((tick / L : Nat) : Int)) := by
    show IntKind.u64.wrap _ = _
    rw [← Int.natCast_ediv]; generalize tick / L = q at *; rw [wrapU64]; omega
  have hr : Hid (IntKind.u64.wrap ((tick : Int) % (L : Int)) = ((tick % L : Nat) : Int)) := by
    show IntKind.u64.wrap _ = _
    rw [← Int.natCast_emod]; generalize tick % L = q at *; rw [wrapU64]; omega
  refine callsIn_of_wp_marks Try.func9 rfl h3 ?_ hro
  simp only [Try.ntmps9, List.size_toArray, List.length_cons, List.length_nil, Nat.reduceAdd, Nat.reduceSub, Array.replicate_succ, Array.replicate_zero, List.push_toArray, List.append_toArray, List.nil_append, List.cons_append]
  gi_wp2_with (gi_at_call 22; refine (backward_in F (n - 1) h6 hro _ _ _ _).mono ?_; rintro e w' ⟨rfl, rfl⟩)
  rw [hq.out]
  have bD := ((Held.new w #[.int .u32 (L : Int), .int .u32 (sw : Int), .slice a len cap] 25).alloc (.cells #[.int .u64 (tick : Int)] 26)).alloc (.cells #[.int .i64 (-1)] 3) |>.alloc (.cells #[.slice a len cap] 23)
  have bT := ((Boxed.new (w.alloc (.cells #[.int .u32 (L : Int), .int .u32 (sw : Int), .slice a len cap] 25)) 26 (.int .u64 (tick : Int))).alloc (.cells #[.int .i64 (-1)] 3)).alloc (.cells #[.slice a len cap] 23)
  have bN := (Boxed.new ((w.alloc (.cells #[.int .u32 (L : Int), .int .u32 (sw : Int), .slice a len cap] 25)).alloc (.cells #[.int .u64 (tick : Int)] 26)) 3 (.int .i64 (-1))).alloc (.cells #[.slice a len cap] 23)
  have bS := Boxed.new (((w.alloc (.cells #[.int .u32 (L : Int), .int .u32 (sw : Int), .slice a len cap] 25)).alloc (.cells #[.int .u64 (tick : Int)] 26)).alloc (.cells #[.int .i64 (-1)] 3)) 23 (.slice a len cap)
  simp only [World.size_alloc] at bT bN bS
  have hB0 : Below w.heap.size w ((((w.alloc (.cells #[.int .u32 (L : Int), .int .u32 (sw : Int), .slice a len cap] 25)).alloc (.cells #[.int .u64 (tick : Int)] 26)).alloc (.cells #[.int .i64 (-1)] 3)).alloc (.cells #[.slice a len cap] 23)) := ((((Below.refl _ w).alloc (Nat.le_refl _) _).alloc (by simp) _).alloc (by simp; omega) _).alloc (by simp; omega) _
  have hsz : ((((w.alloc (.cells #[.int .u32 (L : Int), .int .u32 (sw : Int), .slice a len cap] 25)).alloc (.cells #[.int .u64 (tick : Int)] 26)).alloc (.cells #[.int .i64 (-1)] 3)).alloc (.cells #[.slice a len cap] 23)).heap.size = w.heap.size + 4 := by simp
  generalize (((w.alloc (.cells #[.int .u32 (L : Int), .int .u32 (sw : Int), .slice a len cap] 25)).alloc (.cells #[.int .u64 (tick : Int)] 26)).alloc (.cells #[.int .i64 (-1)] 3)).alloc (.cells #[.slice a len cap] 23) = W0 at *
  have hS0 := hS.below hB0
  have hRi : Hid ((tick : Int) % (L : Int) = ((tick % L : Nat) : Int)) := by show _ = _; rw [Int.natCast_emod]
  generalize hRe : tick % L = R at *
  generalize hQe : tick / L = Q at *
  have HRe := Lib.hid hRe; have HQe := Lib.hid hQe
  clear hRe hQe
  refine wpIn_rangeFunc_ownH (ps := #[19, 20]) hro (by omega) (gf := 24) (lb := #[.pointer (some ⟨w.heap.size + 1 + 1 + 1, 0, none⟩)]) rfl h8 (enters_of Try.func24 (by kernel_rfl) rfl)
    (backward_stops F (n - 1) h8 hro (by omega) (w.heap.size + 1 + 1 + 1) a len cap S hm W0 (by omega) bS.cell hS0) belowK_t (belowK_b (Nat.le_refl _)) (Below.refl _ _) (fun _ => rfl)
    (fun pre W => (((Boxed W (w.heap.size + 1 + 1) 3 (.int .i64 (-1)) ∧ Boxed W (w.heap.size + 1) 26 (.int .u64 (tick : Int))) ∧ Held W w.heap.size #[.int .u32 (L : Int), .int .u32 (sw : Int), .slice a len cap] 25) ∧ (∀ p, p ∈ pre → R < (S p).start)) ∧ Below W0.heap.size W0 W)
    (fun c pre W => (Boxed W (w.heap.size + 1 + 1) 3 (.int .i64 ((pre.getLastD 0 : Nat) : Int)) ∧ (c = .exit 0 ∧ ∃ ini last, pre = ini ++ [last] ∧ (∀ p, p ∈ ini → R < (S p).start) ∧ (S last).start ≤ R)) ∧ Below w.heap.size w W)
    (OwnFrom.and (OwnFrom.and (OwnFrom.and (OwnFrom.and (Own.from (boxed_own _ _ _) _) (Own.from (boxed_own _ _ _) _)) (Own.from (held_own _ _ _) _)) (ownFrom_pure _ _)) (ownFrom_below (Nat.le_refl _) (Nat.le_refl _)))
    (fun c => OwnFrom.and (OwnFrom.and (Own.from (boxed_own _ _ (fun pre : List Nat => .int .i64 ((pre.getLastD 0 : Nat) : Int))) _) (ownFrom_pure _ _)) (ownFrom_below (Nat.le_refl _) (by omega)))
    ⟨⟨⟨⟨bN, bT⟩, bD⟩, fun p hp => by simp at hp⟩, Below.refl _ _⟩
    (fun x a' W => ∃ Bx, W0.heap.size ≤ Bx ∧ Held W Bx #[.int .i64 (S x).part, .int .u32 ((S x).start : Int), .int .u32 ((S x).budget : Int)] 39 ∧ a' = { tmps := #[.agg #[.int .u32 (L : Int), .int .u32 (sw : Int), .slice a len cap], .int .u64 (tick : Int), .pointer (some ⟨w.heap.size, 0, none⟩), .pointer (some ⟨w.heap.size + 1, 0, none⟩), .int .u64 (Q : Int), .pointer (some ⟨w.heap.size + 1 + 1, 0, none⟩), .int .i64 (x : Int), .pointer (some ⟨Bx, 0, none⟩), .pointer (some ⟨w.heap.size, 0, none⟩), .int .u32 (L : Int), .bool false, .int .u64 (tick : Int), .pointer (some ⟨w.heap.size, 0, none⟩), .int .u32 (L : Int), .int .u64 (L : Int), .int .u64 (Q : Int), .pointer (some ⟨w.heap.size, 2, none⟩), .slice a len cap, .func (.func 24) #[] #[.pointer (some ⟨w.heap.size + 1 + 1 + 1, 0, none⟩)], .int .i64 (x : Int), slotA (S x), undef, undef, undef, undef, undef, undef, undef, undef, undef, undef, undef, undef], defers := [] })
    (fun x a' _ X Y row hs hg hr => by obtain ⟨Bx, h1, h2, h3⟩ := hs; exact ⟨Bx, h1, held_own Bx (fun (_ : Unit) => #[.int .i64 (S x).part, .int .u32 ((S x).start : Int), .int .u32 ((S x).budget : Int)]) _ () X Y row h2 hg (fun r e => (hr r e).2), h3⟩)
    ?assign ?body ?done ?stop
  case assign =>
    rintro l pre x W K ⟨⟨⟨⟨bN1, bT1⟩, bD1⟩, hp⟩, hB1⟩ hK
    unfold slotE slotA
    gi_wp2
    exact hK _ _ ((KeepsOthers.alloc _ _).from _) ((Below.refl _ W).alloc hB1.size _) ⟨⟨⟨⟨bN1.alloc _, bT1.alloc _⟩, bD1.alloc _⟩, hp⟩, hB1.alloc hB1.size _⟩ ⟨W.heap.size, hB1.size, Held.new W _ _, rfl⟩
  case body =>
    rintro l pre x a' W hl ⟨r, hr2⟩ ⟨⟨⟨⟨bN1, bT1⟩, bD1⟩, hp⟩, hB1⟩ ⟨Bx, hBx, bX, rfl⟩ hlt
    have cX := bX.cell 1 _ rfl
    have cD := bD1.cell 0 _ rfl
    have cT := bT1.cell
    have cN := bN1.cell
    have fN := bN1.frozen
    have n0 : ¬ (L = 0) := by omega
    have n1 : ¬ ((L : Int) = 0) := by omega
    have n2 : (L == 0) = false := by simpa using n0
    obtain ⟨⟨sp0, sp1⟩, ss1, sb1⟩ := hS.2 x
    by_cases hle : (S x).start ≤ R
    · have u1 : decide (((S x).start : Int) ≤ (tick : Int) % (L : Int)) = true := by rw [hRi.out]; simp; omega
      gi_wp2
      refine wpIn_region_quiet_r (by kernel_rfl) hfm (by kernel_rfl) ?_
      repeat (gi_big_quiet_step (fail))
      refine wpQuietIn_nil ?_
      intro _ hw'
      obtain ⟨nq, hw''⟩ := hw'
      subst hw''
      gi_wp2
      refine ⟨((keepsDrewN W nq).trans (KeepsOthers.setCell _ _ _)).from _, ⟨?_, rfl, pre, x, rfl, hp, hle⟩, ?_⟩
      · have hg : (pre ++ [x]).getLastD 0 = x := by simp
        rw [hg]
        exact Boxed.set _ (show Boxed (W.drewN nq) _ _ _ from bN1)
      · exact (belowDrewN (hB0.trans (hB1.mono hB0.size))).setCell (p := ⟨w.heap.size + 1 + 1, 0, none⟩) (by simp; omega) _
    · have u1 : decide (((S x).start : Int) ≤ (tick : Int) % (L : Int)) = false := by rw [hRi.out]; simp; omega
      gi_wp2
      refine wpIn_region_quiet_r (by kernel_rfl) hfm (by kernel_rfl) ?_
      repeat (gi_big_quiet_step (fail))
      refine wpQuietIn_nil ?_
      intro _ hw'
      obtain ⟨nq, hw''⟩ := hw'
      subst hw''
      gi_wp2
      exact ⟨(keepsDrewN W nq).from _, belowDrewN (Below.refl _ _), ⟨⟨⟨bN1, bT1⟩, bD1⟩, fun p hp' => (List.mem_append.1 hp').elim (hp p) (fun e => by simp at e; subst e; omega)⟩, belowDrewN hB1⟩
  case done =>
    rintro D zs W hD rfl ⟨⟨⟨⟨bN1, bT1⟩, bD1⟩, hp⟩, hB1⟩ hK
    have cN := bN1.cell
    have fN := bN1.frozen
    gi_wp2
    gi_region_with_o (fail)
    all_goals
      gi_wp2
      have hK' : ((W.setCell ⟨w.heap.size + 1 + 1, 0, none⟩ (.int .i64 (-1))).drew).heap[D]? = some (.deferred (some [])) := (KeepsOthers.setCell W ⟨w.heap.size + 1 + 1, 0, none⟩ (.int .i64 (-1))).same D _ hK rfl
      refine ⟨by simp, .inl ⟨_, _, rfl, run_takeDeferred hK', ?_⟩⟩
      have hc5 := cell_kept (show ((W.setCell ⟨w.heap.size + 1 + 1, 0, none⟩ (.int .i64 (-1))).drew).cell? ⟨w.heap.size + 1 + 1, 0, none⟩ = some (.int .i64 (-1)) from (bN1.set (.int .i64 (-1))).cell) (grownBy_putObj' _ D (.deferred none)) (fun r e => by cases e; exact ⟨_, hK', rfl⟩)
      have hA : atN S R len = -1 := atN_none fun i hi => hp i (by simp only [upto, List.mem_map, List.mem_range]; exact ⟨len - 1 - i, by omega, by omega⟩)
      refine ⟨.tuple #[.int .u64 (Q : Int), .int .i64 (-1)], ?_, by rw [HQe.out, HRe.out, hA], ?_⟩
      · simp [results, Try.f9, go_sem, hc5]
      · exact ((hB0.trans (hB1.mono hB0.size)).setCell (p := ⟨w.heap.size + 1 + 1, 0, none⟩) (by simp; omega) _).drew.trans (belowK_b (w := w) (Nat.le_refl _) _ D _ _ (by omega) hK' rfl rfl)
  case stop =>
    rintro D c pre W hD ⟨k, hk, rfl⟩ ⟨⟨bN1, rfl, ini, last, e1, e2, e3⟩, hB1⟩ hK
    obtain ⟨k', rfl⟩ : ∃ k', k = k' + 1 := by
      cases k with
      | zero => simp [upto] at e1
      | succ k' => exact ⟨k', rfl⟩
    rw [upto_succ] at e1 bN1
    obtain ⟨rfl, e5⟩ := List.append_inj' e1 rfl
    obtain rfl : len - 1 - k' = last := by simpa using e5
    have hg : (upto (fun j => len - 1 - j) k' ++ [len - 1 - k']).getLastD 0 = len - 1 - k' := by simp
    rw [hg] at bN1
    have hA : atN S R len = ((len - 1 - k' : Nat) : Int) := atN_some (by omega) e3 fun i h1 h2 => e2 i (by simp only [upto, List.mem_map, List.mem_range]; exact ⟨len - 1 - i, by omega, by omega⟩)
    clear e1 e2 e3 hg
    generalize len - 1 - k' = last at *
    have cN := bN1.cell
    have fN := bN1.frozen
    gi_wp2
    gi_region_with_o (fail)
    all_goals
      gi_wp2
      have hK' : ((W.setCell ⟨w.heap.size + 1 + 1, 0, none⟩ (.int .i64 (last : Int))).drew).heap[D]? = some (.deferred (some [])) := (KeepsOthers.setCell W ⟨w.heap.size + 1 + 1, 0, none⟩ (.int .i64 (last : Int))).same D _ hK rfl
      refine ⟨by simp, .inl ⟨_, _, rfl, run_takeDeferred hK', ?_⟩⟩
      have hc5 := cell_kept (show ((W.setCell ⟨w.heap.size + 1 + 1, 0, none⟩ (.int .i64 (last : Int))).drew).cell? ⟨w.heap.size + 1 + 1, 0, none⟩ = some (.int .i64 (last : Int)) from (bN1.set (.int .i64 (last : Int))).cell) (grownBy_putObj' _ D (.deferred none)) (fun r e => by cases e; exact ⟨_, hK', rfl⟩)
      refine ⟨.tuple #[.int .u64 (Q : Int), .int .i64 (last : Int)], ?_, by rw [HQe.out, HRe.out, hA], ?_⟩
      · simp [results, Try.f9, go_sem, hc5]
      · exact (hB1.setCell (p := ⟨w.heap.size + 1 + 1, 0, none⟩) (by simp; omega) _).drew.trans (belowK_b (w := w) (Nat.le_refl _) _ D _ _ (by omega) hK' rfl rfl)
theorem at_any (L sw : Nat) (a : Option Addr) (len cap : Nat) (S : Nat → SlotR) (tick : Nat) (w : World) (hm : len ≤ 9223372036854775807) (hL : L < 4294967296) (ht : tick < 18446744073709551616) (hS : SlotsAt w a len S) :
    Calls Try.prog 9 #[.agg #[.int .u32 (L : Int), .int .u32 (sw : Int), .slice a len cap], .int .u64 (tick : Int)] w fun e W' => e = .returned (.tuple #[.int .u64 ((tick / L : Nat) : Int), .int .i64 (if L = 0 then -1 else atN S (tick % L) len)]) ∧ Below w.heap.size w W' := by
  by_cases h0 : L = 0
  · subst h0
    rw [if_pos rfl, Nat.div_zero]
    exact at_zero sw a len cap tick w
  · rw [if_neg h0]
    exact callsIn_wide.1 (at_in Fence.wide 3 trivial trivial trivial rfl (Nat.le_refl _) L sw a len cap S tick w hm hL (by omega) ht hS)
end Go.Proofs.Ythbieplfphignaa
