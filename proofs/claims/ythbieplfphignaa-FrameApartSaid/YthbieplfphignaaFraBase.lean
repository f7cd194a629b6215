/- A frame's definition as it lies; slices.Backward's contract. -/
import Derived.Test.YthbieplfphignaaBase
import Derived.RangeFuncNested
import Derived.RangeFuncBound
import Derived.RangeFuncCalls
import Derived.RangeFuncLeaves
import Derived.Shelf.Abstract
import Derived.Shelf.RegionOpen
import Derived.WalkKit
import Derived.OwnWalkIn
import Derived.TacticsInMore
import Derived.LoopNIn
import Derived.LoopIn
import Derived.Deep.QuietTactic
import Derived.BigQuiet
import Derived.BigRegion
import Derived.RegionTactic
import Derived.Deep.RegionHeld3
import Derived.Sort.QuietIn
import Derived.Laws.Small
namespace Go.Proofs.Ythbieplfphignaa
open Go.RowKit Go.Shelf
set_option linter.unusedVariables false
attribute [local go_sem] Oper.semAt_some
/-- A region that draws its order and only reads, also within a round of a range over a function. -/
def noDefer (l : List Oper) : Bool := l.all fun o => match o.op with | .defer _ => false | _ => true
theorem noDefer_at {l : List Oper} (h : noDefer l = true) {i : Nat} {o : Oper} (ho : l.toArray[i]? = some o) : ∀ c, o.op ≠ .defer c := by
  intro c hc
  have hm : o ∈ l := by simpa using Array.mem_of_getElem? ho
  have := (List.all_eq_true.1 h) o hm
  rw [hc] at this
  cases this
theorem wpIn_of_quiet_r {F : Fence} {n : Nat} {P : Program} {C : World → Prop} {o : Oper} {a : Act} {K : Act → Prop} {K' : Act → World → Prop} {Q' : Exit → Act → World → Prop} {w : World} (hd : ∀ c, o.op ≠ .defer c) (hw : C w) (h : ∀ a w', C w' → K a → K' a w')
    (ha : o.askedIn F P a C) (hh : o.quietIn F n P a C K) : o.wpIn F n P a w K' Q' := by
  obtain ⟨v, h1, h2⟩ := hh
  have h3 := h1 w hw
  unfold Oper.quietAtIn at h3
  unfold Oper.wpIn
  refine ⟨ha w hw, ?_⟩
  rw [Oper.semAt_eq _ _ _ hd]
  generalize (execOp a.eval o).run P w = r at *
  cases r with
  | ok x w' =>
    cases x <;> simp only [Oper.quietUponIn] at h3 <;> simp only [Oper.uponIn]
    case value u =>
      obtain ⟨e1, e2⟩ := h3
      rw [e1, e2]
      exact h _ _ hw h2
    case skip =>
      obtain ⟨e1, e2⟩ := h3
      rw [e1, ← e2]
      exact h _ _ hw h2
    case enter f args =>
      obtain ⟨e1, hd, hc⟩ := h3
      rw [e1]
      exact ⟨hd, hc.mono fun e w'' ⟨he, hw''⟩ => by subst he; exact h _ _ hw'' h2⟩
  | halt x w' => simp only [Oper.quietUponIn] at h3
theorem wpOpIn_of_qOpIn_r {F : Fence} {n : Nat} {P : Program} {C : World → Prop} {l : List Oper} {i : Nat} {a : Act} {K : Act → Prop} {K' : Act → World → Prop} {Q' : Exit → Act → World → Prop} {w : World} (hd : noDefer l = true) (hC : C w) (h : ∀ a w', C w' → K a → K' a w')
    (hh : qOpIn F n P l.toArray C i K a) : wpOpIn F n P l.toArray Q' i K' a w := by
  unfold qOpIn at hh
  unfold wpOpIn
  split
  · rename_i ho; simp only [ho] at hh; exact h _ _ hC hh
  · rename_i o ho
    simp only [ho] at hh
    obtain ⟨ha, hh⟩ := hh
    split
    · rename_i hw; simp only [hw, if_true] at hh; exact wpIn_of_quiet_r (noDefer_at hd ho) hC h ha hh
    · rename_i hw; simp only [hw] at hh; exact ⟨ha w hC, h _ _ hC hh⟩
theorem wpAnyIn_of_quiet_r {F : Fence} {n : Nat} {P : Program} {md : Region.Mode} {C : World → Prop} {l : List Oper} {Q : Act → Prop} {Q' : Exit → Act → World → Prop} (hd : noDefer l = true) (hQ : ∀ a w, C w → Q a → Q' .normal a w) : ∀ (fuel : Nat) (listed : Array Bool) (a : Act) (w : World), C w →
    wpAnyQIn F n P md l.toArray C Q fuel listed a → wpAnyIn F n P md l.toArray Q' fuel listed a w
  | 0, _, _, _, hw, h => ⟨h.1, hQ _ _ hw h.2⟩
  | fuel + 1, _, _, _, hw, h => ⟨fun h0 => hQ _ _ hw (h.1 h0), fun i hi => wpOpIn_of_qOpIn_r hd hw (fun a' w' hw' => wpAnyIn_of_quiet_r hd hQ fuel _ a' w' hw') (h.2 i hi)⟩
theorem wpIn_region_quiet_r {F : Fence} {n : Nat} {P : Program} {id : Nat} {Q : Exit → Act → World → Prop} {a : Act} {w : World} {l : List Oper} (hd : noDefer l = true) (hm : P.follows .mixedOrders = true) (hB : Region.lexB .any l.toArray = true)
    (h : wpQuietIn F n P l.toArray (fun w' => ∃ n, w' = w.drewN n) (fun a' => ∀ w', (∃ n, w' = w.drewN n) → Q .normal a' w') l a) : (Code.region id l.toArray true).wpIn F n P Q a w := by
  simp only [Region.lexB, Bool.and_eq_true] at hB
  refine wpIn_region_any hm (wpAnyIn_of_quiet_r (Q := fun a' => ∀ w', (∃ n, w' = w.drewN n) → Q .normal a' w') hd (fun _ w' hw' h => h w' hw') _ _ _ _ ⟨1, rfl⟩ ?_)
  have := wpAnyQIn_lex (F := F) (n := n) (C := fun w' => ∃ n, w' = w.drewN n) (md := .any) hB.1 l 0 (Array.replicate l.toArray.size false) a (by simp) (by simpa using hB.2) h
  simpa using this
structure SlotR where
  part : Int
  start : Nat
  budget : Nat
instance : Inhabited SlotR := ⟨{ part := 0, start := 0, budget := 0 }⟩
def slotV (s : SlotR) (j : Nat) : Value := if j = 0 then .int .i64 s.part else if j = 1 then .int .u32 (s.start : Int) else .int .u32 (s.budget : Int)
def slotA (s : SlotR) : Value := .agg #[.int .i64 s.part, .int .u32 (s.start : Int), .int .u32 (s.budget : Int)]
def SlotR.ok (s : SlotR) : Prop := (-9223372036854775808 ≤ s.part ∧ s.part ≤ 9223372036854775807) ∧ s.start < 4294967296 ∧ s.budget < 4294967296
def SlotsAt (w : World) (a : Option Addr) (len : Nat) (S : Nat → SlotR) : Prop := SliceN w a len 3 (fun i j => slotV (S i) j) ∧ ∀ i, (S i).ok
theorem SlotsAt.below {w w' : World} {a : Option Addr} {len : Nat} {S : Nat → SlotR} (h : SlotsAt w a len S) (hb : Below w.heap.size w w') : SlotsAt w' a len S := ⟨h.1.below hb, h.2⟩
/-- What has come when k rounds are over. -/
def upto {α : Type} (f : Nat → α) (k : Nat) : List α := (List.range k).map f
theorem upto_succ {α : Type} (f : Nat → α) (k : Nat) : upto f (k + 1) = upto f k ++ [f k] := by simp [upto, List.range_succ]
theorem upto_length {α : Type} (f : Nat → α) (k : Nat) : (upto f k).length = k := by simp [upto]
def slotE (S : Nat → SlotR) (i : Nat) : Array Value := #[.int .i64 (i : Int), slotA (S i)]
set_option maxRecDepth 100000 in
set_option maxHeartbeats 2000000 in
theorem backward1_in (F : Fence) (n : Nat) (h8 : F.fn 24) (hro : F.round = none) (hn : 1 ≤ n) (l Bs : Nat) (w0 : World) (a : Option Addr) (len cap : Nat) (S : Nat → SlotR) (hreach : len ≤ 9223372036854775807) (hS : SlotsAt w0 a len S) (J Jx : List Nat → World → Prop)
    (hY : ∀ (pre : List Nat) (x : Nat) (W : World), J pre W → pre.length < len → YieldAt F (n - 1) Try.prog l #[.int .i64 (x : Int), slotA (S x)] W fun e W' =>
      (e = .returned (.bool true) ∧ J (pre ++ [x]) W' ∧ Below w0.heap.size W W') ∨ (e = .returned (.bool false) ∧ Jx (pre ++ [x]) W'))
    (W : World) (hBs0 : Bs < w0.heap.size) (hBs : w0.cell? ⟨Bs, 0, none⟩ = some (.slice a len cap)) (hW : Below w0.heap.size w0 W) (h0 : J [] W) :
    CallsIn F n Try.prog 24 #[.func (.yield l) #[] #[], .pointer (some ⟨Bs, 0, none⟩)] W fun e W' => (∃ v, e = .returned v) ∧
      ((∃ ys, ys = upto (fun j => len - 1 - j) len ∧ J ys W') ∨ (∃ pre, (∃ k, k ≤ len ∧ pre = upto (fun j => len - 1 - j) k) ∧ Jx pre W')) := by
  have hB1 : W.cell? ⟨Bs, 0, none⟩ = some (.slice a len cap) := (hW.cell (p := ⟨Bs, 0, none⟩) hBs0).trans hBs
  refine callsIn_of_wp Try.func24 rfl h8 ?_ hro
  simp only [Try.ntmps24, List.size_toArray, List.length_cons, List.length_nil, Nat.reduceAdd, Nat.reduceSub, Array.replicate_succ, Array.replicate_zero, List.push_toArray, List.append_toArray, List.nil_append, List.cons_append]
  gi_wp2
  gi_loopw [3] (fun i wr => ∃ m : Nat, m ≤ len ∧ ((m = 0 ∧ i = .int .i64 (-1)) ∨ (∃ m', m = m' + 1 ∧ i = .int .i64 (m' : Int))) ∧ J (upto (fun j => len - 1 - j) (len - m)) wr ∧ Below w0.heap.size w0 wr)
    (fun i _ => (intOf i + 1).toNat)
  case atStart =>
    refine ⟨len, Nat.le_refl _, ?_, by rw [Nat.sub_self]; exact h0, hW⟩
    cases len with
    | zero => left; exact ⟨rfl, by go_num⟩
    | succ m' => right; exact ⟨m', rfl, by go_num⟩
  case round =>
    obtain ⟨m, hm, hi, hJs, hnx⟩ := hrel
    have hBw : wr.cell? ⟨Bs, 0, none⟩ = some (.slice a len cap) := (hnx.cell (p := ⟨Bs, 0, none⟩) hBs0).trans hBs
    rcases hi with ⟨rfl, rfl⟩ | ⟨m', rfl, rfl⟩
    · gi_wp2
      go_end0
      exact ⟨⟨_, rfl⟩, .inl ⟨_, rfl, by simpa using hJs⟩⟩
    · obtain ⟨b, off, rfl, hbl, hcells⟩ := hS.1.at (show 0 < len by omega)
      have c0 : wr.cell? ⟨b, off + m' * 3, none⟩ = some (.int .i64 (S m').part) := (hnx.cell hbl).trans (hcells m' (by omega) 0 (by omega))
      have c1 : wr.cell? ⟨b, off + m' * 3 + 1, none⟩ = some (.int .u32 ((S m').start : Int)) := (hnx.cell hbl).trans (hcells m' (by omega) 1 (by omega))
      have c2 : wr.cell? ⟨b, off + m' * 3 + 2, none⟩ = some (.int .u32 ((S m').budget : Int)) := (hnx.cell hbl).trans (hcells m' (by omega) 2 (by omega))
      have i1 : (m' : Int) < (len : Int) := by omega
      have hup : upto (fun j => len - 1 - j) (len - m') = upto (fun j => len - 1 - j) (len - (m' + 1)) ++ [m'] := by
        rw [show len - m' = (len - (m' + 1)) + 1 from by omega, upto_succ]
        congr 2
        omega
      obtain ⟨fn, tmps, assign, body, hy, hR⟩ := hY _ m' wr hJs (by rw [upto_length]; omega)
      unfold slotA at hy
      gi_wp2
      refine hR.mono ?_
      rintro e W3 (⟨rfl, hJ3, hk3⟩ | ⟨rfl, hJx3⟩)
      · gi_wp2
        go_roundw
        case rel =>
          refine ⟨m', by omega, ?_, by rw [hup]; exact hJ3, hnx.trans hk3⟩
          cases m' with
          | zero => left; exact ⟨rfl, by go_num⟩
          | succ m'' => right; exact ⟨m'', rfl, by go_num⟩
        case measure => simp [intOf]
      · gi_wp2
        refine bodyPost_ret (results_none rfl _ _ _) rfl ?_
        exact ⟨⟨_, rfl⟩, .inr ⟨_, ⟨len - m', by omega, hup.symm⟩, hJx3⟩⟩
theorem backward_in (F : Fence) (n : Nat) (h5 : F.fn 22) (hro : F.round = none) (a : Option Addr) (len cap : Nat) (w : World) :
    CallsIn F n Try.prog 22 #[.slice a len cap] w fun e w' => e = .returned (.func (.func 24) #[] #[.pointer (some ⟨w.heap.size, 0, none⟩)]) ∧ w' = w.alloc (.cells #[.slice a len cap] 23) := by
  refine callsIn_of_wp Try.func22 rfl h5 ?_ hro
  simp only [Try.ntmps22, List.size_toArray, List.length_cons, List.length_nil, Nat.reduceAdd, Nat.reduceSub, Array.replicate_succ, Array.replicate_zero, List.push_toArray, List.append_toArray, List.nil_append, List.cons_append]
  gi_wp2
  go_ret
  exact ⟨rfl, rfl⟩
theorem backward_stops (F : Fence) (n : Nat) (h8 : F.fn 24) (hro : F.round = none) (hn : 1 ≤ n) (Bs : Nat) (a : Option Addr) (len cap : Nat) (S : Nat → SlotR) (hreach : len ≤ 9223372036854775807) (w : World) (hBs : Bs < w.heap.size)
    (hc : w.cell? ⟨Bs, 0, none⟩ = some (.slice a len cap)) (hS : SlotsAt w a len S) :
    SeqStopsK F n Try.prog 24 #[.pointer (some ⟨Bs, 0, none⟩)] (slotE S) (Below w.heap.size) (fun ys => ys = upto (fun j => len - 1 - j) len)
      (fun pre => ∃ k, k ≤ len ∧ pre = upto (fun j => len - 1 - j) k) len w := fun l J Jx W hW _ _ hY h0 =>
  backward1_in F n h8 hro hn l Bs w a len cap S hreach hS J Jx hY W hBs hc hW h0
end Go.Proofs.Ythbieplfphignaa
