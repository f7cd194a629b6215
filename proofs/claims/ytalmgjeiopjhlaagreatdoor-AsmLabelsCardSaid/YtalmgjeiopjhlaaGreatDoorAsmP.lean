/- A line's words, in plain words; the document's One. -/
import Derived.Test.YtalmgjeiopjhlaaGreatDoorAsmLO
import Derived.Test.YtalmgjeiopjhlaaGreatDoorRes
import Derived.Deep.CutRange
namespace Go.Proofs.YtalmgjeiopjhlaaGreatDoor
open Go.Shelf Go.RowKit
set_option linter.unusedVariables false
set_option linter.unusedSimpArgs false
def eS : ByteArray := ⟨#[]⟩
def colonB (s : ByteArray) : Bool := Lib.hasSuffix s.data.toList [58]
def stripB (s : ByteArray) : ByteArray := ⟨(Lib.trimSuffix s.data.toList [58]).toArray⟩
def argS (lab : ByteArray) (o z : Nat) (v0 v1 : ByteArray) : Nat × AL :=
  if jumpB o && labelB v0 then (0, ⟨lab, ⟨o, z, 0, 0⟩, v0⟩) else
  if o = 1 ∨ (17 ≤ o ∧ o ≤ 20) then (match numL v0.data.toList with | some c => (0, ⟨lab, ⟨o, z, 0, c⟩, eS⟩) | none => (42, al0)) else
  match numL v0.data.toList with
  | none => (42, al0)
  | some a => if 15 < a then (42, al0) else
    if wordsN o = 2 then (match numL v1.data.toList with | some b => if 15 < b then (42, al0) else (0, ⟨lab, ⟨o, a, b, 0⟩, eS⟩) | none => (42, al0)) else (0, ⟨lab, ⟨o, a, 0, 0⟩, eS⟩)
def opS (lab : ByteArray) (o z : Nat) (vs : List ByteArray) : Nat × AL :=
  if o = 0 ∨ vs.length ≠ wordsN o then (100, al0) else
  if wordsN o = 0 then (0, ⟨lab, ⟨o, z, 0, 0⟩, eS⟩) else argS lab o z (vs.getD 0 eS) (vs.getD 1 eS)
def restS (lab : ByteArray) : List ByteArray → Nat × AL
  | [] => (100, al0)
  | n :: vs => opS lab (opR n.data.toList).1 (opR n.data.toList).2 vs
def lineS (ws : List ByteArray) : Nat × AL :=
  if colonB (ws.getD 0 eS) then (if labelB (stripB (ws.getD 0 eS)) then restS (stripB (ws.getD 0 eS)) ws.tail else (101, al0)) else restS eS ws
structure OutL (r : Nat × AL) (e : Ending) : Prop where
  at_ : ∃ x : AL, e = .returned (.tuple #[x.val, .int .i64 ((r.1 : Nat) : Int)]) ∧ (r.1 = 0 → x = r.2)
def strV (ws : List ByteArray) (i : Nat) : Value := .string (ws.getD i eS)
theorem colon_snoc {s : ByteArray} (h : 0 < s.size) : colonB s = decide (byteN s (s.size - 1) = 58) ∧ (colonB s = true → stripB s = cutS s (s.size - 1)) := by
  obtain ⟨p, b, e1, e2, e3⟩ := snoc_of h
  have hc : colonB s = decide (b = 58) := by
    unfold colonB Lib.hasSuffix
    rw [e1]
    by_cases hb : b = 58
    · subst hb
      rw [decide_eq_true rfl, List.isSuffixOf_iff_suffix]; exact List.suffix_append p [58]
    · rw [decide_eq_false hb]
      cases hx : [58].isSuffixOf (p ++ [b]) with
      | false => rfl
      | true =>
        rw [List.isSuffixOf_iff_suffix] at hx
        obtain ⟨q, hq⟩ := hx
        obtain ⟨_, h2⟩ := List.append_inj' hq rfl
        cases h2; exact absurd rfl hb
  refine ⟨?_, fun h => ?_⟩
  · rw [hc, e2]
    by_cases hb : b = 58
    · subst hb; rfl
    · rw [decide_eq_false hb, decide_eq_false (fun h : b.toNat = 58 => hb (UInt8.toNat_inj.1 h))]
  · rw [hc, decide_eq_true_eq] at h
    subst h
    unfold stripB Lib.trimSuffix
    have : Lib.hasSuffix s.data.toList [58] = true := by
      unfold Lib.hasSuffix; rw [e1, List.isSuffixOf_iff_suffix]; exact List.suffix_append p [58]
    rw [if_pos this]
    have e4 : cutS s (s.size - 1) = ⟨p.toArray⟩ := bytes_ext e3
    rw [e4, e1]
    congr 2
    simp
def Z6 : Array Value := #[.string ⟨#[]⟩, .int .u8 0, .int .u8 0, .int .u16 0, .int .u32 0, .string ⟨#[]⟩]
def set6 (w : World) (g : Nat) (a b c d e f : Value) : World := (((((w.setCell ⟨g, 0, none⟩ a).setCell ⟨g, 1, none⟩ b).setCell ⟨g, 2, none⟩ c).setCell ⟨g, 3, none⟩ d).setCell ⟨g, 4, none⟩ e).setCell ⟨g, 5, none⟩ f
theorem set6_heap {w : World} {g : Nat} {t : TypeId} {cur : Array Value} (h : w.heap[g]? = some (.cells cur t (0, 0))) (hl : cur.size = 6) (a b c d e f : Value) : (set6 w g a b c d e f).heap[g]? = some (.cells #[a, b, c, d, e, f] t (0, 0)) :=
  setCells_all [a, b, c, d, e, f] h hl.symm
theorem set6_below {B : Nat} {a w : World} (h : Below B a w) {g : Nat} (hg : B ≤ g) (v0 v1 v2 v3 v4 v5 : Value) : Below B a (set6 w g v0 v1 v2 v3 v4 v5) :=
  setCells_below h hg 0 [v0, v1, v2, v3, v4, v5]
theorem infoA : (Tryz.prog.info? 34).map (·.size) = some 6 := by kernel_rfl
theorem valV_none {s : ByteArray} {m : Nat} (h : numL s.data.toList = none) : valV s m = -1 := by unfold valV; rw [h]
theorem valV_ok {s : ByteArray} {m n : Nat} (h : numL s.data.toList = some n) (hm : n ≤ m) : valV s m = (n : Int) := by unfold valV; rw [h]; exact if_neg (by omega)
theorem valV_big {s : ByteArray} {m n : Nat} (h : numL s.data.toList = some n) (hm : m < n) : valV s m = -1 := by unfold valV; rw [h]; exact if_pos hm
theorem rvalue_big (s : ByteArray) (w : World) (hs : s.size ≤ 281474976710656) : Calls Tryz.prog 65 #[.string s, .int .u32 4294967295] w fun e w' => e = .returned (.int .i64 (valV s 4294967295)) ∧ w' = w := by
  have h := rvalue_any s 4294967295 w hs (by decide)
  rw [show ((4294967295 : Nat) : Int) = 4294967295 from rfl] at h
  exact h
theorem rvalue_15 (s : ByteArray) (w : World) (hs : s.size ≤ 281474976710656) : Calls Tryz.prog 65 #[.string s, .int .u32 15] w fun e w' => e = .returned (.int .i64 (valV s 15)) ∧ w' = w :=
  rvalue_any s 15 w hs (by decide)
theorem opS_bad {lab : ByteArray} {o z : Nat} {vs : List ByteArray} (h : o = 0 ∨ vs.length ≠ wordsN o) : opS lab o z vs = (100, al0) := by unfold opS; rw [if_pos h]
theorem opS_0 {lab : ByteArray} {o z : Nat} {vs : List ByteArray} (h0 : o ≠ 0) (hw : wordsN o = 0) (hl : vs.length = 0) : opS lab o z vs = (0, ⟨lab, ⟨o, z, 0, 0⟩, eS⟩) := by
  unfold opS; rw [if_neg (by rw [hw]; omega), if_pos hw]
theorem opS_arg {lab : ByteArray} {o z : Nat} {vs : List ByteArray} (h0 : o ≠ 0) (hw : wordsN o ≠ 0) (hl : vs.length = wordsN o) : opS lab o z vs = argS lab o z (vs.getD 0 eS) (vs.getD 1 eS) := by
  unfold opS; rw [if_neg (by omega), if_neg hw]
theorem op_class (o : Nat) (h : o < 28) : o = 0 ∨ (2 ≤ o ∧ o ≤ 16) ∨ o = 27 ∨ o = 23 ∨ o = 25 ∨ o = 1 ∨ o = 17 ∨ o = 18 ∨ o = 19 ∨ o = 20 ∨ o = 21 ∨ o = 22 ∨ o = 24 ∨ o = 26 := by omega
theorem getD_tail (ws : List ByteArray) (i : Nat) : ws.tail.getD i eS = ws.getD (i + 1) eS := by cases ws <;> rfl
theorem tail_at {w : World} {b off : Nat} {ws : List ByteArray} (h : SliceAt w (some ⟨b, off, none⟩) ws.length (strV ws)) : SliceAt w (some ⟨b, off + 1, none⟩) (ws.length - 1) (strV ws.tail) :=
  (h.drop 1).congr fun i _ => by show strV ws (1 + i) = strV ws.tail i; unfold strV; rw [getD_tail, Nat.add_comm]
theorem tail_size {ws : List ByteArray} (h : ∀ i, i < ws.length → 0 < (ws.getD i eS).size ∧ (ws.getD i eS).size ≤ 1000000) : ∀ i, i < ws.tail.length → 0 < (ws.tail.getD i eS).size ∧ (ws.tail.getD i eS).size ≤ 1000000 := fun i hi => by
  rw [List.length_tail] at hi
  rw [getD_tail]; exact h (i + 1) (by omega)
theorem eS_empty : eS.toList.isEmpty = true := by rw [ByteArray.toList_eq]; rfl
/-- What stands behind the label's if. -/
structure OneR (w : World) (g : Nat) (ws : List ByteArray) (W : World) (a : Option Addr) (n c : Nat) (lab : ByteArray) (vs : List ByteArray) : Prop where
  len : n = vs.length
  sl : SliceAt w a n (strV vs)
  cap : n ≤ c ∧ c ≤ maxLen
  eq : lineS ws = restS lab vs
  sz : ∀ i, i < vs.length → 0 < (vs.getD i eS).size ∧ (vs.getD i eS).size ≤ 1000000
  lsz : lab.size ≤ 1000000
  lok : lab.toList.isEmpty = true ∨ labelB lab = true
  gx : W.heap[g + 1]? = some (.cells #[.string lab, .int .u8 0, .int .u8 0, .int .u16 0, .int .u32 0, .string ⟨#[]⟩] 34 (0, 0))
  gr : W.heap[g]? = some (.cells #[.string ⟨#[]⟩, .int .u8 0, .int .u8 0, .int .u16 0, .int .u32 0, .string ⟨#[]⟩] 34 (0, 0))
  b : Below g w W
set_option maxRecDepth 100000 in
set_option maxHeartbeats 40000000 in
theorem one_any (ws : List ByteArray) (a : Option Addr) (c : Nat) (w : World) (hA : SliceAt w a ws.length (strV ws)) (hn : 0 < ws.length) (hc : ws.length ≤ c) (hm : c ≤ maxLen) (hs : ∀ i, i < ws.length → 0 < (ws.getD i eS).size ∧ (ws.getD i eS).size ≤ 1000000) :
    Calls Tryz.prog 43 #[.slice a ws.length c] w fun e w' => OutL (lineS ws) e ∧ Below w.heap.size w w' := by
  obtain ⟨b, off, rfl, hb, hcell⟩ := hA.at hn
  have c0 : w.cell? ⟨b, off, none⟩ = some (.string (ws.getD 0 eS)) := hcell 0 hn
  obtain ⟨hs1, hs2⟩ := hs 0 hn
  have HS := Lib.hid hs
  have HSL := Lib.hid hA
  clear hs
  generalize hf : ws.getD 0 eS = f0 at *
  have hnm : ws.length ≤ 9223372036854775807 := by unfold maxLen at hm; omega
  go_enter Tryz.func43, Tryz.ntmps43
  go_upto_region 2 with fail
  have GX0 : Hid (((w.alloc (.cells Z6 34)).alloc (.cells Z6 34)).heap[w.heap.size + 1]? = some (.cells Z6 34 (0, 0))) := by
    have := heap_alloc_new (w.alloc (.cells Z6 34)) (.cells Z6 34)
    show _ = _
    simpa using this
  have GR0 : Hid (((w.alloc (.cells Z6 34)).alloc (.cells Z6 34)).heap[w.heap.size]? = some (.cells Z6 34 (0, 0))) := ((alloc_below _ _).block _ (by simp)).trans (heap_alloc_new w _)
  have B0 : Hid (Below w.heap.size w ((w.alloc (.cells Z6 34)).alloc (.cells Z6 34))) := (alloc_below _ _).alloc (by simp) _
  unfold Z6 at GX0 GR0 B0
  generalize (w.alloc (.cells #[.string ⟨#[]⟩, .int .u8 0, .int .u8 0, .int .u16 0, .int .u32 0, .string ⟨#[]⟩] 34)).alloc (.cells #[.string ⟨#[]⟩, .int .u8 0, .int .u8 0, .int .u16 0, .int .u32 0, .string ⟨#[]⟩] 34) = w0 at *
  have c0 : w0.cell? ⟨b, off, none⟩ = some (.string f0) := (B0.out.cell hb).trans c0
  have HLS : lineS ws = if colonB f0 then (if labelB (stripB f0) then restS (stripB f0) ws.tail else (101, al0)) else restS eS ws := by unfold lineS; rw [hf]
  obtain ⟨k1, k2⟩ := colon_snoc hs1
  have hi : ∀ W, (Instr.index 9 (.string f0) (.int .i64 ((f0.size : Int) - 1))).run Tryz.prog W = .ok (.int .u8 ((byteN f0 (f0.size - 1) : Nat) : Int)) W := fun W => by
    have := index_str f0 (f0.size - 1) (by omega) 9 Tryz.underlying9 W
    rw [show ((f0.size : Int) - 1) = ((f0.size - 1 : Nat) : Int) by omega]; exact this
  have hct : ∀ W, (Instr.sliceAt 9 (.string f0) none (some (.int .i64 ((f0.size : Int) - 1))) none).run Tryz.prog W = .ok (.string (cutS f0 (f0.size - 1))) W := fun W => by
    have := cut_run f0 (f0.size - 1) (by omega) 9 Tryz.underlying9 W
    rw [show ((f0.size : Int) - 1) = ((f0.size - 1 : Nat) : Int) by omega]; exact this
  have HBN : Hid (byteN f0 (f0.size - 1) = byteN f0 (f0.size - 1)) := rfl
  generalize hbn : byteN f0 (f0.size - 1) = lb at *
  generalize hcs : cutS f0 (f0.size - 1) = lab at *
  generalize hgw : w.heap.size = g at *
  have HG := Lib.hid hgw; have HF := Lib.hid hf
  clear HBN
  go_upto_if 21 with fail
  go_cut [0] from 12 to 143 (fun l W => ∃ (a' : Option Addr) (n' c' : Nat) (lb' : ByteArray) (vs : List ByteArray), l = .slice a' n' c' ∧ OneR w g ws W a' n' c' lb' vs)
  case first =>
    cases hcb : colonB f0 with
    | true =>
      have hlb : lb = 58 := by rw [hcb] at k1; simpa using k1.symm
      rw [hcb, if_pos rfl, k2 hcb] at HLS
      subst hlb
      have LS : lab.size ≤ 1000000 := by rw [← hcs]; unfold cutS; simp; omega
      have x0 := cell_row (j := 0) GX0.out rfl
      have x1 := cell_row (j := 1) GX0.out rfl
      have x2 := cell_row (j := 2) GX0.out rfl
      have x3 := cell_row (j := 3) GX0.out rfl
      have x4 := cell_row (j := 4) GX0.out rfl
      have x5 := cell_row (j := 5) GX0.out rfl
      have y0 : (w0).frozen? ⟨g + 1, 0, none⟩ = false := frozen_of_row _ _ _ _ _ GX0.out
      have y1 : (w0).frozen? ⟨g + 1, 1, none⟩ = false := frozen_of_row _ _ _ _ _ GX0.out
      have y2 : (w0).frozen? ⟨g + 1, 2, none⟩ = false := frozen_of_row _ _ _ _ _ GX0.out
      have y3 : (w0).frozen? ⟨g + 1, 3, none⟩ = false := frozen_of_row _ _ _ _ _ GX0.out
      have y4 : (w0).frozen? ⟨g + 1, 4, none⟩ = false := frozen_of_row _ _ _ _ _ GX0.out
      have y5 : (w0).frozen? ⟨g + 1, 5, none⟩ = false := frozen_of_row _ _ _ _ _ GX0.out
      clear k1 k2 hcs hbn
      go_upto_region 5 with fail
      have GX1 : Hid ((w0.setCell ⟨g + 1, 0, none⟩ (.string lab)).heap[g + 1]? = some (.cells #[.string lab, .int .u8 0, .int .u8 0, .int .u16 0, .int .u32 0, .string ⟨#[]⟩] 34 (0, 0))) := heap_setCell_same _ _ _ _ _ _ GX0.out
      have GR1 : Hid ((w0.setCell ⟨g + 1, 0, none⟩ (.string lab)).heap[g]? = some (.cells #[.string ⟨#[]⟩, .int .u8 0, .int .u8 0, .int .u16 0, .int .u32 0, .string ⟨#[]⟩] 34 (0, 0))) := (heap_setCell_other _ _ _ _ (Nat.ne_of_lt (Nat.lt_succ_self g))).trans GR0.out
      have B1 : Hid (Below g w (w0.setCell ⟨g + 1, 0, none⟩ (.string lab))) := B0.out.setCell (p := ⟨g + 1, 0, none⟩) (Nat.le_succ g) _
      generalize w0.setCell ⟨g + 1, 0, none⟩ (.string lab) = w1 at *
      clear GX0 GR0 B0 x0 x1 x2 x3 x4 x5 y0 y1 y2 y3 y4 y5
      have x0 := cell_row (j := 0) GX1.out rfl
      have x1 := cell_row (j := 1) GX1.out rfl
      have x2 := cell_row (j := 2) GX1.out rfl
      have x3 := cell_row (j := 3) GX1.out rfl
      have x4 := cell_row (j := 4) GX1.out rfl
      have x5 := cell_row (j := 5) GX1.out rfl
      have y0 : (w1).frozen? ⟨g + 1, 0, none⟩ = false := frozen_of_row _ _ _ _ _ GX1.out
      have y1 : (w1).frozen? ⟨g + 1, 1, none⟩ = false := frozen_of_row _ _ _ _ _ GX1.out
      have y2 : (w1).frozen? ⟨g + 1, 2, none⟩ = false := frozen_of_row _ _ _ _ _ GX1.out
      have y3 : (w1).frozen? ⟨g + 1, 3, none⟩ = false := frozen_of_row _ _ _ _ _ GX1.out
      have y4 : (w1).frozen? ⟨g + 1, 4, none⟩ = false := frozen_of_row _ _ _ _ _ GX1.out
      have y5 : (w1).frozen? ⟨g + 1, 5, none⟩ = false := frozen_of_row _ _ _ _ _ GX1.out
      have HLB := Lib.hid (fun W => rlabel_any lab W (by omega))
      go_wp2_with fail
      refine (HLB.out _).mono ?_
      rintro e w' ⟨rfl, hw⟩
      obtain rfl : w1 = w' := hw.symm
      cases hlb : labelB lab with
      | false =>
        rw [hlb] at HLS
        have r0 := cell_row (j := 0) GR1.out rfl
        have r1 := cell_row (j := 1) GR1.out rfl
        have r2 := cell_row (j := 2) GR1.out rfl
        have r3 := cell_row (j := 3) GR1.out rfl
        have r4 := cell_row (j := 4) GR1.out rfl
        have r5 := cell_row (j := 5) GR1.out rfl
        have z0 : (w1).frozen? ⟨g, 0, none⟩ = false := frozen_of_row _ _ _ _ _ GR1.out
        have z1 : (w1).frozen? ⟨g, 1, none⟩ = false := frozen_of_row _ _ _ _ _ GR1.out
        have z2 : (w1).frozen? ⟨g, 2, none⟩ = false := frozen_of_row _ _ _ _ _ GR1.out
        have z3 : (w1).frozen? ⟨g, 3, none⟩ = false := frozen_of_row _ _ _ _ _ GR1.out
        have z4 : (w1).frozen? ⟨g, 4, none⟩ = false := frozen_of_row _ _ _ _ _ GR1.out
        have z5 : (w1).frozen? ⟨g, 5, none⟩ = false := frozen_of_row _ _ _ _ _ GR1.out
        go_wp2_with fail
        try simp only [Exit.inBlock, Exit.then]
        refine bodyPost_ret (results_cell_tmp rfl _ _ g 34 #[.string lab, .int .u8 0, .int .u8 0, .int .u16 0, .int .u32 0, .string ⟨#[]⟩] (0, 0) _ _ rfl rfl (set6_heap GR1.out rfl _ _ _ _ _ _) Tryz.underlying34 rfl infoA) rfl ?_
        refine ⟨⟨⟨⟨lab, noIns, ⟨#[]⟩⟩, by first | (rw [HLS]; done) | (rw [HLS]; rfl), fun h => by (rw [HLS] at h ⊢) <;> first | rfl | cases h⟩⟩, ?_⟩
        rw [hgw]
        exact set6_below B1.out (Nat.le_refl g) _ _ _ _ _ _
      | true =>
        rw [hlb, if_pos rfl] at HLS
        go_wp2_with fail
        · go_meet
          case rel => exact ⟨_, _, _, lab, ws.tail, rfl, (List.length_tail).symm, .inl (by omega), ⟨by omega, by unfold maxLen; omega⟩, HLS, tail_size HS.out, LS, .inr hlb, GX1.out, GR1.out, B1.out⟩
        · go_meet
          case rel => exact ⟨_, _, _, lab, ws.tail, rfl, (List.length_tail).symm, tail_at HSL.out, ⟨by omega, by omega⟩, HLS, tail_size HS.out, LS, .inr hlb, GX1.out, GR1.out, B1.out⟩
    | false =>
      have hlb : ((lb : Int) == 58) = false := by rw [hcb] at k1; exact beq_eq_false_iff_ne.2 (fun h => by simp at k1; exact k1 (by omega))
      rw [hcb, if_neg (by decide)] at HLS
      go_wp2_with fail
      go_meet
      case rel => exact ⟨_, _, _, eS, ws, rfl, rfl, HSL.out, ⟨hc, hm⟩, HLS, HS.out, by show (0 : Nat) ≤ _; omega, .inl eS_empty, GX0.out, GR0.out, B0.out⟩
  case rest =>
    obtain ⟨a', n', c', lb', vs0, rfl, HR⟩ := hcut
    clear hi hct HSL HS hs1 hs2 GX0 GR0 B0 c0 HLS k1 k2 hbn hcs hcell hn hnm hc hm hA
    obtain ⟨hlen, hsl, ⟨hn1, hn2⟩, HLS, hsz, -, -, hgx, hgr, hbb⟩ := HR
    have GX0 := Lib.hid hgx; have GR0 := Lib.hid hgr; have B0 := Lib.hid hbb
    clear hgx hgr hbb
    obtain ⟨w0, rfl⟩ : ∃ x, x = wc := ⟨wc, rfl⟩
    have hm : n' ≤ 9223372036854775807 := by unfold maxLen at hn2; omega
    cases vs0 with
    | nil =>
      obtain rfl : n' = 0 := hlen
      have HLS : lineS ws = (100, al0) := HLS
      have x0 := cell_row (j := 0) GX0.out rfl
      have x1 := cell_row (j := 1) GX0.out rfl
      have x2 := cell_row (j := 2) GX0.out rfl
      have x3 := cell_row (j := 3) GX0.out rfl
      have x4 := cell_row (j := 4) GX0.out rfl
      have x5 := cell_row (j := 5) GX0.out rfl
      have y0 : (w0).frozen? ⟨g + 1, 0, none⟩ = false := frozen_of_row _ _ _ _ _ GX0.out
      have y1 : (w0).frozen? ⟨g + 1, 1, none⟩ = false := frozen_of_row _ _ _ _ _ GX0.out
      have y2 : (w0).frozen? ⟨g + 1, 2, none⟩ = false := frozen_of_row _ _ _ _ _ GX0.out
      have y3 : (w0).frozen? ⟨g + 1, 3, none⟩ = false := frozen_of_row _ _ _ _ _ GX0.out
      have y4 : (w0).frozen? ⟨g + 1, 4, none⟩ = false := frozen_of_row _ _ _ _ _ GX0.out
      have y5 : (w0).frozen? ⟨g + 1, 5, none⟩ = false := frozen_of_row _ _ _ _ _ GX0.out
      clear hsl hsz hn1 hn2
      have r0 := cell_row (j := 0) GR0.out rfl
      have r1 := cell_row (j := 1) GR0.out rfl
      have r2 := cell_row (j := 2) GR0.out rfl
      have r3 := cell_row (j := 3) GR0.out rfl
      have r4 := cell_row (j := 4) GR0.out rfl
      have r5 := cell_row (j := 5) GR0.out rfl
      have z0 : (w0).frozen? ⟨g, 0, none⟩ = false := frozen_of_row _ _ _ _ _ GR0.out
      have z1 : (w0).frozen? ⟨g, 1, none⟩ = false := frozen_of_row _ _ _ _ _ GR0.out
      have z2 : (w0).frozen? ⟨g, 2, none⟩ = false := frozen_of_row _ _ _ _ _ GR0.out
      have z3 : (w0).frozen? ⟨g, 3, none⟩ = false := frozen_of_row _ _ _ _ _ GR0.out
      have z4 : (w0).frozen? ⟨g, 4, none⟩ = false := frozen_of_row _ _ _ _ _ GR0.out
      have z5 : (w0).frozen? ⟨g, 5, none⟩ = false := frozen_of_row _ _ _ _ _ GR0.out
      go_wp2_with fail
      try simp only [Exit.inBlock, Exit.then]
      refine bodyPost_ret (results_cell_tmp rfl _ _ g 34 #[.string lb', .int .u8 (0 : Int), .int .u8 (0 : Int), .int .u16 0, .int .u32 0, .string ⟨#[]⟩] (0, 0) _ _ rfl rfl (set6_heap GR0.out rfl _ _ _ _ _ _) Tryz.underlying34 rfl infoA) rfl ?_
      refine ⟨⟨⟨⟨lb', ⟨0, 0, 0, 0⟩, ⟨#[]⟩⟩, by first | (rw [HLS]; done) | (rw [HLS]; rfl), fun h => by (rw [HLS] at h ⊢) <;> first | rfl | cases h⟩⟩, ?_⟩
      rw [hgw]
      exact set6_below B0.out (Nat.le_refl g) _ _ _ _ _ _
    | cons f1 vs =>
    have HLS : lineS ws = opS lb' (opR f1.data.toList).1 (opR f1.data.toList).2 vs := HLS
    have HSN : Hid (∀ i, i < vs.length → (vs.getD i eS).size ≤ 281474976710656) := fun i hi => by
      have := (hsz (i + 1) (by rw [List.length_cons]; omega)).2
      rw [List.getD_cons_succ] at this; omega
    subst hlen
    obtain ⟨b', off', rfl, hb', hc'⟩ := hsl.at (by rw [List.length_cons]; omega)
    have hbg : b' < g := HG.out ▸ hb'
    have HCN : Hid (∀ W, Below g w W → ∀ i, i < vs.length → W.cell? ⟨b', off' + (i + 1), none⟩ = some (.string (vs.getD i eS))) := fun W hW i hi => (hW.cell hbg).trans (hc' (i + 1) (by rw [List.length_cons]; omega))
    have c0 : w0.cell? ⟨b', off', none⟩ = some (.string f1) := (B0.out.cell hbg).trans (hc' 0 (by rw [List.length_cons]; omega))
    clear hsz hsl hc'
    obtain ⟨ho, hz⟩ := opR_lt f1.data.toList
    have HOP := Lib.hid (fun W => rop_all f1 W)
    unfold opV at HOP
    generalize (opR f1.data.toList).1 = o at *
    generalize (opR f1.data.toList).2 = z at *
    rw [List.length_cons] at *
    generalize hnv : vs.length = nv at *
    have x0 := cell_row (j := 0) GX0.out rfl
    have x1 := cell_row (j := 1) GX0.out rfl
    have x2 := cell_row (j := 2) GX0.out rfl
    have x3 := cell_row (j := 3) GX0.out rfl
    have x4 := cell_row (j := 4) GX0.out rfl
    have x5 := cell_row (j := 5) GX0.out rfl
    have y0 : (w0).frozen? ⟨g + 1, 0, none⟩ = false := frozen_of_row _ _ _ _ _ GX0.out
    have y1 : (w0).frozen? ⟨g + 1, 1, none⟩ = false := frozen_of_row _ _ _ _ _ GX0.out
    have y2 : (w0).frozen? ⟨g + 1, 2, none⟩ = false := frozen_of_row _ _ _ _ _ GX0.out
    have y3 : (w0).frozen? ⟨g + 1, 3, none⟩ = false := frozen_of_row _ _ _ _ _ GX0.out
    have y4 : (w0).frozen? ⟨g + 1, 4, none⟩ = false := frozen_of_row _ _ _ _ _ GX0.out
    have y5 : (w0).frozen? ⟨g + 1, 5, none⟩ = false := frozen_of_row _ _ _ _ _ GX0.out
    go_wp2_with fail
    refine (HOP.out w0).mono ?_
    rintro e w1 ⟨rfl, hb1⟩
    have GX1 := Lib.hid (kept GX0.out hb1)
    have GR1 := Lib.hid (kept GR0.out hb1)
    have B1 : Hid (Below g w w1) := B0.out.trans (hb1.mono (by have h := B0.out.size; omega))
    clear hb1 GX0 GR0 B0 x0 x1 x2 x3 x4 x5 y0 y1 y2 y3 y4 y5
    have x0 := cell_row (j := 0) GX1.out rfl
    have x1 := cell_row (j := 1) GX1.out rfl
    have x2 := cell_row (j := 2) GX1.out rfl
    have x3 := cell_row (j := 3) GX1.out rfl
    have x4 := cell_row (j := 4) GX1.out rfl
    have x5 := cell_row (j := 5) GX1.out rfl
    have y0 : (w1).frozen? ⟨g + 1, 0, none⟩ = false := frozen_of_row _ _ _ _ _ GX1.out
    have y1 : (w1).frozen? ⟨g + 1, 1, none⟩ = false := frozen_of_row _ _ _ _ _ GX1.out
    have y2 : (w1).frozen? ⟨g + 1, 2, none⟩ = false := frozen_of_row _ _ _ _ _ GX1.out
    have y3 : (w1).frozen? ⟨g + 1, 3, none⟩ = false := frozen_of_row _ _ _ _ _ GX1.out
    have y4 : (w1).frozen? ⟨g + 1, 4, none⟩ = false := frozen_of_row _ _ _ _ _ GX1.out
    have y5 : (w1).frozen? ⟨g + 1, 5, none⟩ = false := frozen_of_row _ _ _ _ _ GX1.out
    go_upto_region 12 with fail
    have GX2 : Hid ((w1.setCell ⟨g + 1, 1, none⟩ (.int .u8 (o : Int))).heap[g + 1]? = some (.cells #[.string lb', .int .u8 (o : Int), .int .u8 0, .int .u16 0, .int .u32 0, .string ⟨#[]⟩] 34 (0, 0))) := heap_setCell_same _ _ _ _ _ _ GX1.out
    have GR2 : Hid ((w1.setCell ⟨g + 1, 1, none⟩ (.int .u8 (o : Int))).heap[g]? = some (.cells #[.string ⟨#[]⟩, .int .u8 0, .int .u8 0, .int .u16 0, .int .u32 0, .string ⟨#[]⟩] 34 (0, 0))) := (heap_setCell_other _ _ _ _ (Nat.ne_of_lt (Nat.lt_succ_self g))).trans GR1.out
    have B2 : Hid (Below g w (w1.setCell ⟨g + 1, 1, none⟩ (.int .u8 (o : Int)))) := B1.out.setCell (p := ⟨g + 1, 1, none⟩) (Nat.le_succ g) _
    generalize w1.setCell ⟨g + 1, 1, none⟩ (.int .u8 (o : Int)) = w2 at *
    clear GX1 GR1 B1 x0 x1 x2 x3 x4 x5 y0 y1 y2 y3 y4 y5
    have x0 := cell_row (j := 0) GX2.out rfl
    have x1 := cell_row (j := 1) GX2.out rfl
    have x2 := cell_row (j := 2) GX2.out rfl
    have x3 := cell_row (j := 3) GX2.out rfl
    have x4 := cell_row (j := 4) GX2.out rfl
    have x5 := cell_row (j := 5) GX2.out rfl
    have y0 : (w2).frozen? ⟨g + 1, 0, none⟩ = false := frozen_of_row _ _ _ _ _ GX2.out
    have y1 : (w2).frozen? ⟨g + 1, 1, none⟩ = false := frozen_of_row _ _ _ _ _ GX2.out
    have y2 : (w2).frozen? ⟨g + 1, 2, none⟩ = false := frozen_of_row _ _ _ _ _ GX2.out
    have y3 : (w2).frozen? ⟨g + 1, 3, none⟩ = false := frozen_of_row _ _ _ _ _ GX2.out
    have y4 : (w2).frozen? ⟨g + 1, 4, none⟩ = false := frozen_of_row _ _ _ _ _ GX2.out
    have y5 : (w2).frozen? ⟨g + 1, 5, none⟩ = false := frozen_of_row _ _ _ _ _ GX2.out
    go_upto_region 13 with fail
    have GX3 : Hid ((w2.setCell ⟨g + 1, 2, none⟩ (.int .u8 (z : Int))).heap[g + 1]? = some (.cells #[.string lb', .int .u8 (o : Int), .int .u8 (z : Int), .int .u16 0, .int .u32 0, .string ⟨#[]⟩] 34 (0, 0))) := heap_setCell_same _ _ _ _ _ _ GX2.out
    have GR3 : Hid ((w2.setCell ⟨g + 1, 2, none⟩ (.int .u8 (z : Int))).heap[g]? = some (.cells #[.string ⟨#[]⟩, .int .u8 0, .int .u8 0, .int .u16 0, .int .u32 0, .string ⟨#[]⟩] 34 (0, 0))) := (heap_setCell_other _ _ _ _ (Nat.ne_of_lt (Nat.lt_succ_self g))).trans GR2.out
    have B3 : Hid (Below g w (w2.setCell ⟨g + 1, 2, none⟩ (.int .u8 (z : Int)))) := B2.out.setCell (p := ⟨g + 1, 2, none⟩) (Nat.le_succ g) _
    generalize w2.setCell ⟨g + 1, 2, none⟩ (.int .u8 (z : Int)) = w3 at *
    clear GX2 GR2 B2 x0 x1 x2 x3 x4 x5 y0 y1 y2 y3 y4 y5
    have x0 := cell_row (j := 0) GX3.out rfl
    have x1 := cell_row (j := 1) GX3.out rfl
    have x2 := cell_row (j := 2) GX3.out rfl
    have x3 := cell_row (j := 3) GX3.out rfl
    have x4 := cell_row (j := 4) GX3.out rfl
    have x5 := cell_row (j := 5) GX3.out rfl
    have y0 : (w3).frozen? ⟨g + 1, 0, none⟩ = false := frozen_of_row _ _ _ _ _ GX3.out
    have y1 : (w3).frozen? ⟨g + 1, 1, none⟩ = false := frozen_of_row _ _ _ _ _ GX3.out
    have y2 : (w3).frozen? ⟨g + 1, 2, none⟩ = false := frozen_of_row _ _ _ _ _ GX3.out
    have y3 : (w3).frozen? ⟨g + 1, 3, none⟩ = false := frozen_of_row _ _ _ _ _ GX3.out
    have y4 : (w3).frozen? ⟨g + 1, 4, none⟩ = false := frozen_of_row _ _ _ _ _ GX3.out
    have y5 : (w3).frozen? ⟨g + 1, 5, none⟩ = false := frozen_of_row _ _ _ _ _ GX3.out
    clear HOP
    rcases op_class o ho with rfl | ⟨h2, h16⟩ | rfl | rfl | rfl | rfl | rfl | rfl | rfl | rfl | rfl | rfl | rfl | rfl
    · have HLS := HLS.trans (opS_bad (.inl rfl))
      have r0 := cell_row (j := 0) GR3.out rfl
      have r1 := cell_row (j := 1) GR3.out rfl
      have r2 := cell_row (j := 2) GR3.out rfl
      have r3 := cell_row (j := 3) GR3.out rfl
      have r4 := cell_row (j := 4) GR3.out rfl
      have r5 := cell_row (j := 5) GR3.out rfl
      have z0 : (w3).frozen? ⟨g, 0, none⟩ = false := frozen_of_row _ _ _ _ _ GR3.out
      have z1 : (w3).frozen? ⟨g, 1, none⟩ = false := frozen_of_row _ _ _ _ _ GR3.out
      have z2 : (w3).frozen? ⟨g, 2, none⟩ = false := frozen_of_row _ _ _ _ _ GR3.out
      have z3 : (w3).frozen? ⟨g, 3, none⟩ = false := frozen_of_row _ _ _ _ _ GR3.out
      have z4 : (w3).frozen? ⟨g, 4, none⟩ = false := frozen_of_row _ _ _ _ _ GR3.out
      have z5 : (w3).frozen? ⟨g, 5, none⟩ = false := frozen_of_row _ _ _ _ _ GR3.out
      go_wp2_with fail
      try simp only [Exit.inBlock, Exit.then]
      refine bodyPost_ret (results_cell_tmp rfl _ _ g 34 #[.string lb', .int .u8 (0 : Int), .int .u8 (z : Int), .int .u16 0, .int .u32 0, .string ⟨#[]⟩] (0, 0) _ _ rfl rfl (set6_heap GR3.out rfl _ _ _ _ _ _) Tryz.underlying34 rfl infoA) rfl ?_
      refine ⟨⟨⟨⟨lb', ⟨0, z, 0, 0⟩, ⟨#[]⟩⟩, by first | (rw [HLS]; done) | (rw [HLS]; rfl), fun h => by (rw [HLS] at h ⊢) <;> first | rfl | cases h⟩⟩, ?_⟩
      rw [hgw]
      exact set6_below B3.out (Nat.le_refl g) _ _ _ _ _ _
    · have ho0 : o ≠ 0 := by omega
      have hw0 : wordsN o = 0 := by unfold wordsN; rw [if_neg (by omega), if_neg (by omega)]
      have t0 : ((o : Int) == 0) = false := beq_eq_false_iff_ne.2 (by omega)
      have t1 : ((o : Int) == 23) = false := beq_eq_false_iff_ne.2 (by omega)
      have t2 : ((o : Int) == 25) = false := beq_eq_false_iff_ne.2 (by omega)
      have t3 : decide ((2 : Int) ≤ (o : Int)) = true := decide_eq_true (by omega)
      have t4 : decide ((o : Int) ≤ 16) = true := decide_eq_true (by omega)
      -- no word behind the name
      by_cases hn0 : nv = 0
      · have t9 : ((((nv + 1 : Nat) : Int)) != 1) = false := by rw [hn0]; rfl
        have HLS := HLS.trans (opS_0 ho0 hw0 (by rw [hnv]; exact hn0))
        subst hn0
        have r0 := cell_row (j := 0) GR3.out rfl
        have r1 := cell_row (j := 1) GR3.out rfl
        have r2 := cell_row (j := 2) GR3.out rfl
        have r3 := cell_row (j := 3) GR3.out rfl
        have r4 := cell_row (j := 4) GR3.out rfl
        have r5 := cell_row (j := 5) GR3.out rfl
        have z0 : (w3).frozen? ⟨g, 0, none⟩ = false := frozen_of_row _ _ _ _ _ GR3.out
        have z1 : (w3).frozen? ⟨g, 1, none⟩ = false := frozen_of_row _ _ _ _ _ GR3.out
        have z2 : (w3).frozen? ⟨g, 2, none⟩ = false := frozen_of_row _ _ _ _ _ GR3.out
        have z3 : (w3).frozen? ⟨g, 3, none⟩ = false := frozen_of_row _ _ _ _ _ GR3.out
        have z4 : (w3).frozen? ⟨g, 4, none⟩ = false := frozen_of_row _ _ _ _ _ GR3.out
        have z5 : (w3).frozen? ⟨g, 5, none⟩ = false := frozen_of_row _ _ _ _ _ GR3.out
        go_wp2_with fail
        try simp only [Exit.inBlock, Exit.then]
        refine bodyPost_ret (results_cell_tmp rfl _ _ g 34 #[.string lb', .int .u8 (o : Int), .int .u8 (z : Int), .int .u16 0, .int .u32 0, .string ⟨#[]⟩] (0, 0) _ _ rfl rfl (set6_heap GR3.out rfl _ _ _ _ _ _) Tryz.underlying34 rfl infoA) rfl ?_
        refine ⟨⟨⟨⟨lb', ⟨o, z, 0, 0⟩, ⟨#[]⟩⟩, by first | (rw [HLS]; done) | (rw [HLS]; rfl), fun h => by (rw [HLS] at h ⊢) <;> first | rfl | cases h⟩⟩, ?_⟩
        rw [hgw]
        exact set6_below B3.out (Nat.le_refl g) _ _ _ _ _ _
      · have HLS := HLS.trans (opS_bad (.inr (by rw [hnv, hw0]; exact hn0)))
        have t9 : (((nv : Int) + 1) != 1) = true := bne_iff_ne.2 (by omega)
        have r0 := cell_row (j := 0) GR3.out rfl
        have r1 := cell_row (j := 1) GR3.out rfl
        have r2 := cell_row (j := 2) GR3.out rfl
        have r3 := cell_row (j := 3) GR3.out rfl
        have r4 := cell_row (j := 4) GR3.out rfl
        have r5 := cell_row (j := 5) GR3.out rfl
        have z0 : (w3).frozen? ⟨g, 0, none⟩ = false := frozen_of_row _ _ _ _ _ GR3.out
        have z1 : (w3).frozen? ⟨g, 1, none⟩ = false := frozen_of_row _ _ _ _ _ GR3.out
        have z2 : (w3).frozen? ⟨g, 2, none⟩ = false := frozen_of_row _ _ _ _ _ GR3.out
        have z3 : (w3).frozen? ⟨g, 3, none⟩ = false := frozen_of_row _ _ _ _ _ GR3.out
        have z4 : (w3).frozen? ⟨g, 4, none⟩ = false := frozen_of_row _ _ _ _ _ GR3.out
        have z5 : (w3).frozen? ⟨g, 5, none⟩ = false := frozen_of_row _ _ _ _ _ GR3.out
        go_wp2_with fail
        try simp only [Exit.inBlock, Exit.then]
        refine bodyPost_ret (results_cell_tmp rfl _ _ g 34 #[.string lb', .int .u8 (o : Int), .int .u8 (z : Int), .int .u16 0, .int .u32 0, .string ⟨#[]⟩] (0, 0) _ _ rfl rfl (set6_heap GR3.out rfl _ _ _ _ _ _) Tryz.underlying34 rfl infoA) rfl ?_
        refine ⟨⟨⟨⟨lb', ⟨o, z, 0, 0⟩, ⟨#[]⟩⟩, by first | (rw [HLS]; done) | (rw [HLS]; rfl), fun h => by (rw [HLS] at h ⊢) <;> first | rfl | cases h⟩⟩, ?_⟩
        rw [hgw]
        exact set6_below B3.out (Nat.le_refl g) _ _ _ _ _ _
    · have ho0 : (27 : Nat) ≠ 0 := by decide
      have hw0 : wordsN 27 = 0 := by decide
      -- no word behind the name
      by_cases hn0 : nv = 0
      · have t9 : ((((nv + 1 : Nat) : Int)) != 1) = false := by rw [hn0]; rfl
        have HLS := HLS.trans (opS_0 ho0 hw0 (by rw [hnv]; exact hn0))
        subst hn0
        have r0 := cell_row (j := 0) GR3.out rfl
        have r1 := cell_row (j := 1) GR3.out rfl
        have r2 := cell_row (j := 2) GR3.out rfl
        have r3 := cell_row (j := 3) GR3.out rfl
        have r4 := cell_row (j := 4) GR3.out rfl
        have r5 := cell_row (j := 5) GR3.out rfl
        have z0 : (w3).frozen? ⟨g, 0, none⟩ = false := frozen_of_row _ _ _ _ _ GR3.out
        have z1 : (w3).frozen? ⟨g, 1, none⟩ = false := frozen_of_row _ _ _ _ _ GR3.out
        have z2 : (w3).frozen? ⟨g, 2, none⟩ = false := frozen_of_row _ _ _ _ _ GR3.out
        have z3 : (w3).frozen? ⟨g, 3, none⟩ = false := frozen_of_row _ _ _ _ _ GR3.out
        have z4 : (w3).frozen? ⟨g, 4, none⟩ = false := frozen_of_row _ _ _ _ _ GR3.out
        have z5 : (w3).frozen? ⟨g, 5, none⟩ = false := frozen_of_row _ _ _ _ _ GR3.out
        go_wp2_with fail
        try simp only [Exit.inBlock, Exit.then]
        refine bodyPost_ret (results_cell_tmp rfl _ _ g 34 #[.string lb', .int .u8 (27 : Int), .int .u8 (z : Int), .int .u16 0, .int .u32 0, .string ⟨#[]⟩] (0, 0) _ _ rfl rfl (set6_heap GR3.out rfl _ _ _ _ _ _) Tryz.underlying34 rfl infoA) rfl ?_
        refine ⟨⟨⟨⟨lb', ⟨27, z, 0, 0⟩, ⟨#[]⟩⟩, by first | (rw [HLS]; done) | (rw [HLS]; rfl), fun h => by (rw [HLS] at h ⊢) <;> first | rfl | cases h⟩⟩, ?_⟩
        rw [hgw]
        exact set6_below B3.out (Nat.le_refl g) _ _ _ _ _ _
      · have HLS := HLS.trans (opS_bad (.inr (by rw [hnv, hw0]; exact hn0)))
        have t9 : (((nv : Int) + 1) != 1) = true := bne_iff_ne.2 (by omega)
        have r0 := cell_row (j := 0) GR3.out rfl
        have r1 := cell_row (j := 1) GR3.out rfl
        have r2 := cell_row (j := 2) GR3.out rfl
        have r3 := cell_row (j := 3) GR3.out rfl
        have r4 := cell_row (j := 4) GR3.out rfl
        have r5 := cell_row (j := 5) GR3.out rfl
        have z0 : (w3).frozen? ⟨g, 0, none⟩ = false := frozen_of_row _ _ _ _ _ GR3.out
        have z1 : (w3).frozen? ⟨g, 1, none⟩ = false := frozen_of_row _ _ _ _ _ GR3.out
        have z2 : (w3).frozen? ⟨g, 2, none⟩ = false := frozen_of_row _ _ _ _ _ GR3.out
        have z3 : (w3).frozen? ⟨g, 3, none⟩ = false := frozen_of_row _ _ _ _ _ GR3.out
        have z4 : (w3).frozen? ⟨g, 4, none⟩ = false := frozen_of_row _ _ _ _ _ GR3.out
        have z5 : (w3).frozen? ⟨g, 5, none⟩ = false := frozen_of_row _ _ _ _ _ GR3.out
        go_wp2_with fail
        try simp only [Exit.inBlock, Exit.then]
        refine bodyPost_ret (results_cell_tmp rfl _ _ g 34 #[.string lb', .int .u8 (27 : Int), .int .u8 (z : Int), .int .u16 0, .int .u32 0, .string ⟨#[]⟩] (0, 0) _ _ rfl rfl (set6_heap GR3.out rfl _ _ _ _ _ _) Tryz.underlying34 rfl infoA) rfl ?_
        refine ⟨⟨⟨⟨lb', ⟨27, z, 0, 0⟩, ⟨#[]⟩⟩, by first | (rw [HLS]; done) | (rw [HLS]; rfl), fun h => by (rw [HLS] at h ⊢) <;> first | rfl | cases h⟩⟩, ?_⟩
        rw [hgw]
        exact set6_below B3.out (Nat.le_refl g) _ _ _ _ _ _
    · skip
      by_cases hn2 : nv = 2
      · have HLS := HLS.trans (opS_arg (by decide) (by decide) (by rw [hnv]; exact hn2))
        subst hn2
        obtain ⟨v0, hv0⟩ : ∃ v0, v0 = vs.getD 0 eS := ⟨_, rfl⟩
        obtain ⟨v1, hv1⟩ : ∃ v1, v1 = vs.getD 1 eS := ⟨_, rfl⟩
        have HSV : Hid (v0.size ≤ 281474976710656) := by rw [hv0]; exact HSN.out 0 (by omega)
        have HSU : Hid (v1.size ≤ 281474976710656) := by rw [hv1]; exact HSN.out 1 (by omega)
        have u1 : w3.cell? ⟨b', off' + 1, none⟩ = some (.string v0) := by rw [hv0]; exact HCN.out w3 B3.out 0 (by omega)
        have u2 : w3.cell? ⟨b', off' + 2, none⟩ = some (.string v1) := by rw [hv1]; exact HCN.out w3 B3.out 1 (by omega)
        rw [← hv0, ← hv1] at HLS
        clear hv0 hv1
        go_wp2_with fail
        refine (rjumps_any 23 w3).mono ?_
        rintro e w' ⟨rfl, hw⟩
        obtain rfl : w3 = w' := hw.symm
        rw [show jumpB 23 = false from rfl]
        have HLS : lineS ws = (match numL v0.data.toList with | none => (42, al0) | some a => if 15 < a then (42, al0) else (match numL v1.data.toList with | some b => if 15 < b then (42, al0) else (0, ⟨lb', ⟨23, a, b, 0⟩, eS⟩) | none => (42, al0))) := HLS
        go_wp2_with fail
        have hV := Lib.hid (rvalue_15 v0 w3 HSV.out)
        refine hV.out.mono ?_
        clear hV
        rintro e w' ⟨rfl, hw⟩
        obtain rfl : w3 = w' := hw.symm
        have hV := Lib.hid (rvalue_15 v1 w3 HSU.out)
        cases hx : numL v0.data.toList with
        | none =>
          rw [hx] at HLS
          rw [valV_none hx]
          go_wp2_with fail
          refine hV.out.mono ?_
          clear hV
          rintro e w' ⟨rfl, hw⟩
          obtain rfl : w3 = w' := hw.symm
          generalize valV v1 15 = y1 at *
          have r0 := cell_row (j := 0) GR3.out rfl
          have r1 := cell_row (j := 1) GR3.out rfl
          have r2 := cell_row (j := 2) GR3.out rfl
          have r3 := cell_row (j := 3) GR3.out rfl
          have r4 := cell_row (j := 4) GR3.out rfl
          have r5 := cell_row (j := 5) GR3.out rfl
          have z0 : (w3).frozen? ⟨g, 0, none⟩ = false := frozen_of_row _ _ _ _ _ GR3.out
          have z1 : (w3).frozen? ⟨g, 1, none⟩ = false := frozen_of_row _ _ _ _ _ GR3.out
          have z2 : (w3).frozen? ⟨g, 2, none⟩ = false := frozen_of_row _ _ _ _ _ GR3.out
          have z3 : (w3).frozen? ⟨g, 3, none⟩ = false := frozen_of_row _ _ _ _ _ GR3.out
          have z4 : (w3).frozen? ⟨g, 4, none⟩ = false := frozen_of_row _ _ _ _ _ GR3.out
          have z5 : (w3).frozen? ⟨g, 5, none⟩ = false := frozen_of_row _ _ _ _ _ GR3.out
          go_wp2_with fail
          try simp only [Exit.inBlock, Exit.then]
          refine bodyPost_ret (results_cell_tmp rfl _ _ g 34 #[.string lb', .int .u8 23, .int .u8 (z : Int), .int .u16 0, .int .u32 0, .string ⟨#[]⟩] (0, 0) _ _ rfl rfl (set6_heap GR3.out rfl _ _ _ _ _ _) Tryz.underlying34 rfl infoA) rfl ?_
          refine ⟨⟨⟨⟨lb', ⟨23, z, 0, 0⟩, ⟨#[]⟩⟩, by first | (rw [HLS]; done) | (rw [HLS]; rfl), fun h => by (rw [HLS] at h ⊢) <;> first | rfl | cases h⟩⟩, ?_⟩
          rw [hgw]
          exact set6_below B3.out (Nat.le_refl g) _ _ _ _ _ _
        | some av =>
          rw [hx] at HLS
          by_cases h15 : 15 < av
          · have HLS : lineS ws = (42, al0) := HLS.trans (if_pos h15)
            rw [valV_big hx h15]
            go_wp2_with fail
            refine hV.out.mono ?_
            clear hV
            rintro e w' ⟨rfl, hw⟩
            obtain rfl : w3 = w' := hw.symm
            generalize valV v1 15 = y1 at *
            have r0 := cell_row (j := 0) GR3.out rfl
            have r1 := cell_row (j := 1) GR3.out rfl
            have r2 := cell_row (j := 2) GR3.out rfl
            have r3 := cell_row (j := 3) GR3.out rfl
            have r4 := cell_row (j := 4) GR3.out rfl
            have r5 := cell_row (j := 5) GR3.out rfl
            have z0 : (w3).frozen? ⟨g, 0, none⟩ = false := frozen_of_row _ _ _ _ _ GR3.out
            have z1 : (w3).frozen? ⟨g, 1, none⟩ = false := frozen_of_row _ _ _ _ _ GR3.out
            have z2 : (w3).frozen? ⟨g, 2, none⟩ = false := frozen_of_row _ _ _ _ _ GR3.out
            have z3 : (w3).frozen? ⟨g, 3, none⟩ = false := frozen_of_row _ _ _ _ _ GR3.out
            have z4 : (w3).frozen? ⟨g, 4, none⟩ = false := frozen_of_row _ _ _ _ _ GR3.out
            have z5 : (w3).frozen? ⟨g, 5, none⟩ = false := frozen_of_row _ _ _ _ _ GR3.out
            go_wp2_with fail
            try simp only [Exit.inBlock, Exit.then]
            refine bodyPost_ret (results_cell_tmp rfl _ _ g 34 #[.string lb', .int .u8 23, .int .u8 (z : Int), .int .u16 0, .int .u32 0, .string ⟨#[]⟩] (0, 0) _ _ rfl rfl (set6_heap GR3.out rfl _ _ _ _ _ _) Tryz.underlying34 rfl infoA) rfl ?_
            refine ⟨⟨⟨⟨lb', ⟨23, z, 0, 0⟩, ⟨#[]⟩⟩, by first | (rw [HLS]; done) | (rw [HLS]; rfl), fun h => by (rw [HLS] at h ⊢) <;> first | rfl | cases h⟩⟩, ?_⟩
            rw [hgw]
            exact set6_below B3.out (Nat.le_refl g) _ _ _ _ _ _
          · have HLS := HLS.trans (if_neg h15)
            rw [valV_ok hx (by omega)]
            have t7 : decide ((av : Int) < 0) = false := decide_eq_false (by omega)
            have h256 : av < 256 := by omega
            go_wp2_with fail
            refine hV.out.mono ?_
            clear hV
            rintro e w' ⟨rfl, hw⟩
            obtain rfl : w3 = w' := hw.symm
            cases hy : numL v1.data.toList with
            | none =>
              rw [hy] at HLS
              rw [valV_none hy]
              have r0 := cell_row (j := 0) GR3.out rfl
              have r1 := cell_row (j := 1) GR3.out rfl
              have r2 := cell_row (j := 2) GR3.out rfl
              have r3 := cell_row (j := 3) GR3.out rfl
              have r4 := cell_row (j := 4) GR3.out rfl
              have r5 := cell_row (j := 5) GR3.out rfl
              have z0 : (w3).frozen? ⟨g, 0, none⟩ = false := frozen_of_row _ _ _ _ _ GR3.out
              have z1 : (w3).frozen? ⟨g, 1, none⟩ = false := frozen_of_row _ _ _ _ _ GR3.out
              have z2 : (w3).frozen? ⟨g, 2, none⟩ = false := frozen_of_row _ _ _ _ _ GR3.out
              have z3 : (w3).frozen? ⟨g, 3, none⟩ = false := frozen_of_row _ _ _ _ _ GR3.out
              have z4 : (w3).frozen? ⟨g, 4, none⟩ = false := frozen_of_row _ _ _ _ _ GR3.out
              have z5 : (w3).frozen? ⟨g, 5, none⟩ = false := frozen_of_row _ _ _ _ _ GR3.out
              go_wp2_with fail
              try simp only [Exit.inBlock, Exit.then]
              refine bodyPost_ret (results_cell_tmp rfl _ _ g 34 #[.string lb', .int .u8 23, .int .u8 (z : Int), .int .u16 0, .int .u32 0, .string ⟨#[]⟩] (0, 0) _ _ rfl rfl (set6_heap GR3.out rfl _ _ _ _ _ _) Tryz.underlying34 rfl infoA) rfl ?_
              refine ⟨⟨⟨⟨lb', ⟨23, z, 0, 0⟩, ⟨#[]⟩⟩, by first | (rw [HLS]; done) | (rw [HLS]; rfl), fun h => by (rw [HLS] at h ⊢) <;> first | rfl | cases h⟩⟩, ?_⟩
              rw [hgw]
              exact set6_below B3.out (Nat.le_refl g) _ _ _ _ _ _
            | some bv =>
              rw [hy] at HLS
              by_cases h16 : 15 < bv
              · have HLS : lineS ws = (42, al0) := HLS.trans (if_pos h16)
                rw [valV_big hy h16]
                have r0 := cell_row (j := 0) GR3.out rfl
                have r1 := cell_row (j := 1) GR3.out rfl
                have r2 := cell_row (j := 2) GR3.out rfl
                have r3 := cell_row (j := 3) GR3.out rfl
                have r4 := cell_row (j := 4) GR3.out rfl
                have r5 := cell_row (j := 5) GR3.out rfl
                have z0 : (w3).frozen? ⟨g, 0, none⟩ = false := frozen_of_row _ _ _ _ _ GR3.out
                have z1 : (w3).frozen? ⟨g, 1, none⟩ = false := frozen_of_row _ _ _ _ _ GR3.out
                have z2 : (w3).frozen? ⟨g, 2, none⟩ = false := frozen_of_row _ _ _ _ _ GR3.out
                have z3 : (w3).frozen? ⟨g, 3, none⟩ = false := frozen_of_row _ _ _ _ _ GR3.out
                have z4 : (w3).frozen? ⟨g, 4, none⟩ = false := frozen_of_row _ _ _ _ _ GR3.out
                have z5 : (w3).frozen? ⟨g, 5, none⟩ = false := frozen_of_row _ _ _ _ _ GR3.out
                go_wp2_with fail
                try simp only [Exit.inBlock, Exit.then]
                refine bodyPost_ret (results_cell_tmp rfl _ _ g 34 #[.string lb', .int .u8 23, .int .u8 (z : Int), .int .u16 0, .int .u32 0, .string ⟨#[]⟩] (0, 0) _ _ rfl rfl (set6_heap GR3.out rfl _ _ _ _ _ _) Tryz.underlying34 rfl infoA) rfl ?_
                refine ⟨⟨⟨⟨lb', ⟨23, z, 0, 0⟩, ⟨#[]⟩⟩, by first | (rw [HLS]; done) | (rw [HLS]; rfl), fun h => by (rw [HLS] at h ⊢) <;> first | rfl | cases h⟩⟩, ?_⟩
                rw [hgw]
                exact set6_below B3.out (Nat.le_refl g) _ _ _ _ _ _
              · have HLS : lineS ws = (0, ⟨lb', ⟨23, av, bv, 0⟩, eS⟩) := HLS.trans (if_neg h16)
                rw [valV_ok hy (by omega)]
                have t8 : decide ((bv : Int) < 0) = false := decide_eq_false (by omega)
                have h257 : bv < 65536 := by omega
                go_upto_region 38 with fail
                have GX7 : Hid ((w3.setCell ⟨g + 1, 2, none⟩ (.int .u8 (av : Int))).heap[g + 1]? = some (.cells #[.string lb', .int .u8 23, .int .u8 (av : Int), .int .u16 0, .int .u32 0, .string ⟨#[]⟩] 34 (0, 0))) := heap_setCell_same _ _ _ _ _ _ GX3.out
                have GR7 : Hid ((w3.setCell ⟨g + 1, 2, none⟩ (.int .u8 (av : Int))).heap[g]? = some (.cells #[.string ⟨#[]⟩, .int .u8 0, .int .u8 0, .int .u16 0, .int .u32 0, .string ⟨#[]⟩] 34 (0, 0))) := (heap_setCell_other _ _ _ _ (Nat.ne_of_lt (Nat.lt_succ_self g))).trans GR3.out
                have B7 : Hid (Below g w (w3.setCell ⟨g + 1, 2, none⟩ (.int .u8 (av : Int)))) := B3.out.setCell (p := ⟨g + 1, 2, none⟩) (Nat.le_succ g) _
                generalize w3.setCell ⟨g + 1, 2, none⟩ (.int .u8 (av : Int)) = w7 at *
                clear GX3 GR3 B3 x0 x1 x2 x3 x4 x5 y0 y1 y2 y3 y4 y5
                have x0 := cell_row (j := 0) GX7.out rfl
                have x1 := cell_row (j := 1) GX7.out rfl
                have x2 := cell_row (j := 2) GX7.out rfl
                have x3 := cell_row (j := 3) GX7.out rfl
                have x4 := cell_row (j := 4) GX7.out rfl
                have x5 := cell_row (j := 5) GX7.out rfl
                have y0 : (w7).frozen? ⟨g + 1, 0, none⟩ = false := frozen_of_row _ _ _ _ _ GX7.out
                have y1 : (w7).frozen? ⟨g + 1, 1, none⟩ = false := frozen_of_row _ _ _ _ _ GX7.out
                have y2 : (w7).frozen? ⟨g + 1, 2, none⟩ = false := frozen_of_row _ _ _ _ _ GX7.out
                have y3 : (w7).frozen? ⟨g + 1, 3, none⟩ = false := frozen_of_row _ _ _ _ _ GX7.out
                have y4 : (w7).frozen? ⟨g + 1, 4, none⟩ = false := frozen_of_row _ _ _ _ _ GX7.out
                have y5 : (w7).frozen? ⟨g + 1, 5, none⟩ = false := frozen_of_row _ _ _ _ _ GX7.out
                go_upto_region 39 with fail
                have GX8 : Hid ((w7.setCell ⟨g + 1, 3, none⟩ (.int .u16 (bv : Int))).heap[g + 1]? = some (.cells #[.string lb', .int .u8 23, .int .u8 (av : Int), .int .u16 (bv : Int), .int .u32 0, .string ⟨#[]⟩] 34 (0, 0))) := heap_setCell_same _ _ _ _ _ _ GX7.out
                have GR8 : Hid ((w7.setCell ⟨g + 1, 3, none⟩ (.int .u16 (bv : Int))).heap[g]? = some (.cells #[.string ⟨#[]⟩, .int .u8 0, .int .u8 0, .int .u16 0, .int .u32 0, .string ⟨#[]⟩] 34 (0, 0))) := (heap_setCell_other _ _ _ _ (Nat.ne_of_lt (Nat.lt_succ_self g))).trans GR7.out
                have B8 : Hid (Below g w (w7.setCell ⟨g + 1, 3, none⟩ (.int .u16 (bv : Int)))) := B7.out.setCell (p := ⟨g + 1, 3, none⟩) (Nat.le_succ g) _
                generalize w7.setCell ⟨g + 1, 3, none⟩ (.int .u16 (bv : Int)) = w8 at *
                clear GX7 GR7 B7 x0 x1 x2 x3 x4 x5 y0 y1 y2 y3 y4 y5
                have x0 := cell_row (j := 0) GX8.out rfl
                have x1 := cell_row (j := 1) GX8.out rfl
                have x2 := cell_row (j := 2) GX8.out rfl
                have x3 := cell_row (j := 3) GX8.out rfl
                have x4 := cell_row (j := 4) GX8.out rfl
                have x5 := cell_row (j := 5) GX8.out rfl
                have y0 : (w8).frozen? ⟨g + 1, 0, none⟩ = false := frozen_of_row _ _ _ _ _ GX8.out
                have y1 : (w8).frozen? ⟨g + 1, 1, none⟩ = false := frozen_of_row _ _ _ _ _ GX8.out
                have y2 : (w8).frozen? ⟨g + 1, 2, none⟩ = false := frozen_of_row _ _ _ _ _ GX8.out
                have y3 : (w8).frozen? ⟨g + 1, 3, none⟩ = false := frozen_of_row _ _ _ _ _ GX8.out
                have y4 : (w8).frozen? ⟨g + 1, 4, none⟩ = false := frozen_of_row _ _ _ _ _ GX8.out
                have y5 : (w8).frozen? ⟨g + 1, 5, none⟩ = false := frozen_of_row _ _ _ _ _ GX8.out
                have r0 := cell_row (j := 0) GR8.out rfl
                have r1 := cell_row (j := 1) GR8.out rfl
                have r2 := cell_row (j := 2) GR8.out rfl
                have r3 := cell_row (j := 3) GR8.out rfl
                have r4 := cell_row (j := 4) GR8.out rfl
                have r5 := cell_row (j := 5) GR8.out rfl
                have z0 : (w8).frozen? ⟨g, 0, none⟩ = false := frozen_of_row _ _ _ _ _ GR8.out
                have z1 : (w8).frozen? ⟨g, 1, none⟩ = false := frozen_of_row _ _ _ _ _ GR8.out
                have z2 : (w8).frozen? ⟨g, 2, none⟩ = false := frozen_of_row _ _ _ _ _ GR8.out
                have z3 : (w8).frozen? ⟨g, 3, none⟩ = false := frozen_of_row _ _ _ _ _ GR8.out
                have z4 : (w8).frozen? ⟨g, 4, none⟩ = false := frozen_of_row _ _ _ _ _ GR8.out
                have z5 : (w8).frozen? ⟨g, 5, none⟩ = false := frozen_of_row _ _ _ _ _ GR8.out
                go_wp2_with fail
                try simp only [Exit.inBlock, Exit.then]
                refine bodyPost_ret (results_cell_tmp rfl _ _ g 34 #[.string lb', .int .u8 23, .int .u8 (av : Int), .int .u16 (bv : Int), .int .u32 0, .string ⟨#[]⟩] (0, 0) _ _ rfl rfl (set6_heap GR8.out rfl _ _ _ _ _ _) Tryz.underlying34 rfl infoA) rfl ?_
                refine ⟨⟨⟨⟨lb', ⟨23, av, bv, 0⟩, ⟨#[]⟩⟩, by first | (rw [HLS]; done) | (rw [HLS]; rfl), fun h => by (rw [HLS] at h ⊢) <;> first | rfl | cases h⟩⟩, ?_⟩
                rw [hgw]
                exact set6_below B8.out (Nat.le_refl g) _ _ _ _ _ _
      · have HLS := HLS.trans (opS_bad (.inr (by rw [hnv]; exact hn2)))
        have t9 : (((nv : Int) + 1) != 3) = true := bne_iff_ne.2 (by omega)
        have r0 := cell_row (j := 0) GR3.out rfl
        have r1 := cell_row (j := 1) GR3.out rfl
        have r2 := cell_row (j := 2) GR3.out rfl
        have r3 := cell_row (j := 3) GR3.out rfl
        have r4 := cell_row (j := 4) GR3.out rfl
        have r5 := cell_row (j := 5) GR3.out rfl
        have z0 : (w3).frozen? ⟨g, 0, none⟩ = false := frozen_of_row _ _ _ _ _ GR3.out
        have z1 : (w3).frozen? ⟨g, 1, none⟩ = false := frozen_of_row _ _ _ _ _ GR3.out
        have z2 : (w3).frozen? ⟨g, 2, none⟩ = false := frozen_of_row _ _ _ _ _ GR3.out
        have z3 : (w3).frozen? ⟨g, 3, none⟩ = false := frozen_of_row _ _ _ _ _ GR3.out
        have z4 : (w3).frozen? ⟨g, 4, none⟩ = false := frozen_of_row _ _ _ _ _ GR3.out
        have z5 : (w3).frozen? ⟨g, 5, none⟩ = false := frozen_of_row _ _ _ _ _ GR3.out
        go_wp2_with fail
        try simp only [Exit.inBlock, Exit.then]
        refine bodyPost_ret (results_cell_tmp rfl _ _ g 34 #[.string lb', .int .u8 (23 : Int), .int .u8 (z : Int), .int .u16 0, .int .u32 0, .string ⟨#[]⟩] (0, 0) _ _ rfl rfl (set6_heap GR3.out rfl _ _ _ _ _ _) Tryz.underlying34 rfl infoA) rfl ?_
        refine ⟨⟨⟨⟨lb', ⟨23, z, 0, 0⟩, ⟨#[]⟩⟩, by first | (rw [HLS]; done) | (rw [HLS]; rfl), fun h => by (rw [HLS] at h ⊢) <;> first | rfl | cases h⟩⟩, ?_⟩
        rw [hgw]
        exact set6_below B3.out (Nat.le_refl g) _ _ _ _ _ _
    · skip
      by_cases hn2 : nv = 2
      · have HLS := HLS.trans (opS_arg (by decide) (by decide) (by rw [hnv]; exact hn2))
        subst hn2
        obtain ⟨v0, hv0⟩ : ∃ v0, v0 = vs.getD 0 eS := ⟨_, rfl⟩
        obtain ⟨v1, hv1⟩ : ∃ v1, v1 = vs.getD 1 eS := ⟨_, rfl⟩
        have HSV : Hid (v0.size ≤ 281474976710656) := by rw [hv0]; exact HSN.out 0 (by omega)
        have HSU : Hid (v1.size ≤ 281474976710656) := by rw [hv1]; exact HSN.out 1 (by omega)
        have u1 : w3.cell? ⟨b', off' + 1, none⟩ = some (.string v0) := by rw [hv0]; exact HCN.out w3 B3.out 0 (by omega)
        have u2 : w3.cell? ⟨b', off' + 2, none⟩ = some (.string v1) := by rw [hv1]; exact HCN.out w3 B3.out 1 (by omega)
        rw [← hv0, ← hv1] at HLS
        clear hv0 hv1
        go_wp2_with fail
        refine (rjumps_any 25 w3).mono ?_
        rintro e w' ⟨rfl, hw⟩
        obtain rfl : w3 = w' := hw.symm
        rw [show jumpB 25 = false from rfl]
        have HLS : lineS ws = (match numL v0.data.toList with | none => (42, al0) | some a => if 15 < a then (42, al0) else (match numL v1.data.toList with | some b => if 15 < b then (42, al0) else (0, ⟨lb', ⟨25, a, b, 0⟩, eS⟩) | none => (42, al0))) := HLS
        go_wp2_with fail
        have hV := Lib.hid (rvalue_15 v0 w3 HSV.out)
        refine hV.out.mono ?_
        clear hV
        rintro e w' ⟨rfl, hw⟩
        obtain rfl : w3 = w' := hw.symm
        have hV := Lib.hid (rvalue_15 v1 w3 HSU.out)
        cases hx : numL v0.data.toList with
        | none =>
          rw [hx] at HLS
          rw [valV_none hx]
          go_wp2_with fail
          refine hV.out.mono ?_
          clear hV
          rintro e w' ⟨rfl, hw⟩
          obtain rfl : w3 = w' := hw.symm
          generalize valV v1 15 = y1 at *
          have r0 := cell_row (j := 0) GR3.out rfl
          have r1 := cell_row (j := 1) GR3.out rfl
          have r2 := cell_row (j := 2) GR3.out rfl
          have r3 := cell_row (j := 3) GR3.out rfl
          have r4 := cell_row (j := 4) GR3.out rfl
          have r5 := cell_row (j := 5) GR3.out rfl
          have z0 : (w3).frozen? ⟨g, 0, none⟩ = false := frozen_of_row _ _ _ _ _ GR3.out
          have z1 : (w3).frozen? ⟨g, 1, none⟩ = false := frozen_of_row _ _ _ _ _ GR3.out
          have z2 : (w3).frozen? ⟨g, 2, none⟩ = false := frozen_of_row _ _ _ _ _ GR3.out
          have z3 : (w3).frozen? ⟨g, 3, none⟩ = false := frozen_of_row _ _ _ _ _ GR3.out
          have z4 : (w3).frozen? ⟨g, 4, none⟩ = false := frozen_of_row _ _ _ _ _ GR3.out
          have z5 : (w3).frozen? ⟨g, 5, none⟩ = false := frozen_of_row _ _ _ _ _ GR3.out
          go_wp2_with fail
          try simp only [Exit.inBlock, Exit.then]
          refine bodyPost_ret (results_cell_tmp rfl _ _ g 34 #[.string lb', .int .u8 25, .int .u8 (z : Int), .int .u16 0, .int .u32 0, .string ⟨#[]⟩] (0, 0) _ _ rfl rfl (set6_heap GR3.out rfl _ _ _ _ _ _) Tryz.underlying34 rfl infoA) rfl ?_
          refine ⟨⟨⟨⟨lb', ⟨25, z, 0, 0⟩, ⟨#[]⟩⟩, by first | (rw [HLS]; done) | (rw [HLS]; rfl), fun h => by (rw [HLS] at h ⊢) <;> first | rfl | cases h⟩⟩, ?_⟩
          rw [hgw]
          exact set6_below B3.out (Nat.le_refl g) _ _ _ _ _ _
        | some av =>
          rw [hx] at HLS
          by_cases h15 : 15 < av
          · have HLS : lineS ws = (42, al0) := HLS.trans (if_pos h15)
            rw [valV_big hx h15]
            go_wp2_with fail
            refine hV.out.mono ?_
            clear hV
            rintro e w' ⟨rfl, hw⟩
            obtain rfl : w3 = w' := hw.symm
            generalize valV v1 15 = y1 at *
            have r0 := cell_row (j := 0) GR3.out rfl
            have r1 := cell_row (j := 1) GR3.out rfl
            have r2 := cell_row (j := 2) GR3.out rfl
            have r3 := cell_row (j := 3) GR3.out rfl
            have r4 := cell_row (j := 4) GR3.out rfl
            have r5 := cell_row (j := 5) GR3.out rfl
            have z0 : (w3).frozen? ⟨g, 0, none⟩ = false := frozen_of_row _ _ _ _ _ GR3.out
            have z1 : (w3).frozen? ⟨g, 1, none⟩ = false := frozen_of_row _ _ _ _ _ GR3.out
            have z2 : (w3).frozen? ⟨g, 2, none⟩ = false := frozen_of_row _ _ _ _ _ GR3.out
            have z3 : (w3).frozen? ⟨g, 3, none⟩ = false := frozen_of_row _ _ _ _ _ GR3.out
            have z4 : (w3).frozen? ⟨g, 4, none⟩ = false := frozen_of_row _ _ _ _ _ GR3.out
            have z5 : (w3).frozen? ⟨g, 5, none⟩ = false := frozen_of_row _ _ _ _ _ GR3.out
            go_wp2_with fail
            try simp only [Exit.inBlock, Exit.then]
            refine bodyPost_ret (results_cell_tmp rfl _ _ g 34 #[.string lb', .int .u8 25, .int .u8 (z : Int), .int .u16 0, .int .u32 0, .string ⟨#[]⟩] (0, 0) _ _ rfl rfl (set6_heap GR3.out rfl _ _ _ _ _ _) Tryz.underlying34 rfl infoA) rfl ?_
            refine ⟨⟨⟨⟨lb', ⟨25, z, 0, 0⟩, ⟨#[]⟩⟩, by first | (rw [HLS]; done) | (rw [HLS]; rfl), fun h => by (rw [HLS] at h ⊢) <;> first | rfl | cases h⟩⟩, ?_⟩
            rw [hgw]
            exact set6_below B3.out (Nat.le_refl g) _ _ _ _ _ _
          · have HLS := HLS.trans (if_neg h15)
            rw [valV_ok hx (by omega)]
            have t7 : decide ((av : Int) < 0) = false := decide_eq_false (by omega)
            have h256 : av < 256 := by omega
            go_wp2_with fail
            refine hV.out.mono ?_
            clear hV
            rintro e w' ⟨rfl, hw⟩
            obtain rfl : w3 = w' := hw.symm
            cases hy : numL v1.data.toList with
            | none =>
              rw [hy] at HLS
              rw [valV_none hy]
              have r0 := cell_row (j := 0) GR3.out rfl
              have r1 := cell_row (j := 1) GR3.out rfl
              have r2 := cell_row (j := 2) GR3.out rfl
              have r3 := cell_row (j := 3) GR3.out rfl
              have r4 := cell_row (j := 4) GR3.out rfl
              have r5 := cell_row (j := 5) GR3.out rfl
              have z0 : (w3).frozen? ⟨g, 0, none⟩ = false := frozen_of_row _ _ _ _ _ GR3.out
              have z1 : (w3).frozen? ⟨g, 1, none⟩ = false := frozen_of_row _ _ _ _ _ GR3.out
              have z2 : (w3).frozen? ⟨g, 2, none⟩ = false := frozen_of_row _ _ _ _ _ GR3.out
              have z3 : (w3).frozen? ⟨g, 3, none⟩ = false := frozen_of_row _ _ _ _ _ GR3.out
              have z4 : (w3).frozen? ⟨g, 4, none⟩ = false := frozen_of_row _ _ _ _ _ GR3.out
              have z5 : (w3).frozen? ⟨g, 5, none⟩ = false := frozen_of_row _ _ _ _ _ GR3.out
              go_wp2_with fail
              try simp only [Exit.inBlock, Exit.then]
              refine bodyPost_ret (results_cell_tmp rfl _ _ g 34 #[.string lb', .int .u8 25, .int .u8 (z : Int), .int .u16 0, .int .u32 0, .string ⟨#[]⟩] (0, 0) _ _ rfl rfl (set6_heap GR3.out rfl _ _ _ _ _ _) Tryz.underlying34 rfl infoA) rfl ?_
              refine ⟨⟨⟨⟨lb', ⟨25, z, 0, 0⟩, ⟨#[]⟩⟩, by first | (rw [HLS]; done) | (rw [HLS]; rfl), fun h => by (rw [HLS] at h ⊢) <;> first | rfl | cases h⟩⟩, ?_⟩
              rw [hgw]
              exact set6_below B3.out (Nat.le_refl g) _ _ _ _ _ _
            | some bv =>
              rw [hy] at HLS
              by_cases h16 : 15 < bv
              · have HLS : lineS ws = (42, al0) := HLS.trans (if_pos h16)
                rw [valV_big hy h16]
                have r0 := cell_row (j := 0) GR3.out rfl
                have r1 := cell_row (j := 1) GR3.out rfl
                have r2 := cell_row (j := 2) GR3.out rfl
                have r3 := cell_row (j := 3) GR3.out rfl
                have r4 := cell_row (j := 4) GR3.out rfl
                have r5 := cell_row (j := 5) GR3.out rfl
                have z0 : (w3).frozen? ⟨g, 0, none⟩ = false := frozen_of_row _ _ _ _ _ GR3.out
                have z1 : (w3).frozen? ⟨g, 1, none⟩ = false := frozen_of_row _ _ _ _ _ GR3.out
                have z2 : (w3).frozen? ⟨g, 2, none⟩ = false := frozen_of_row _ _ _ _ _ GR3.out
                have z3 : (w3).frozen? ⟨g, 3, none⟩ = false := frozen_of_row _ _ _ _ _ GR3.out
                have z4 : (w3).frozen? ⟨g, 4, none⟩ = false := frozen_of_row _ _ _ _ _ GR3.out
                have z5 : (w3).frozen? ⟨g, 5, none⟩ = false := frozen_of_row _ _ _ _ _ GR3.out
                go_wp2_with fail
                try simp only [Exit.inBlock, Exit.then]
                refine bodyPost_ret (results_cell_tmp rfl _ _ g 34 #[.string lb', .int .u8 25, .int .u8 (z : Int), .int .u16 0, .int .u32 0, .string ⟨#[]⟩] (0, 0) _ _ rfl rfl (set6_heap GR3.out rfl _ _ _ _ _ _) Tryz.underlying34 rfl infoA) rfl ?_
                refine ⟨⟨⟨⟨lb', ⟨25, z, 0, 0⟩, ⟨#[]⟩⟩, by first | (rw [HLS]; done) | (rw [HLS]; rfl), fun h => by (rw [HLS] at h ⊢) <;> first | rfl | cases h⟩⟩, ?_⟩
                rw [hgw]
                exact set6_below B3.out (Nat.le_refl g) _ _ _ _ _ _
              · have HLS : lineS ws = (0, ⟨lb', ⟨25, av, bv, 0⟩, eS⟩) := HLS.trans (if_neg h16)
                rw [valV_ok hy (by omega)]
                have t8 : decide ((bv : Int) < 0) = false := decide_eq_false (by omega)
                have h257 : bv < 65536 := by omega
                go_upto_region 38 with fail
                have GX7 : Hid ((w3.setCell ⟨g + 1, 2, none⟩ (.int .u8 (av : Int))).heap[g + 1]? = some (.cells #[.string lb', .int .u8 25, .int .u8 (av : Int), .int .u16 0, .int .u32 0, .string ⟨#[]⟩] 34 (0, 0))) := heap_setCell_same _ _ _ _ _ _ GX3.out
                have GR7 : Hid ((w3.setCell ⟨g + 1, 2, none⟩ (.int .u8 (av : Int))).heap[g]? = some (.cells #[.string ⟨#[]⟩, .int .u8 0, .int .u8 0, .int .u16 0, .int .u32 0, .string ⟨#[]⟩] 34 (0, 0))) := (heap_setCell_other _ _ _ _ (Nat.ne_of_lt (Nat.lt_succ_self g))).trans GR3.out
                have B7 : Hid (Below g w (w3.setCell ⟨g + 1, 2, none⟩ (.int .u8 (av : Int)))) := B3.out.setCell (p := ⟨g + 1, 2, none⟩) (Nat.le_succ g) _
                generalize w3.setCell ⟨g + 1, 2, none⟩ (.int .u8 (av : Int)) = w7 at *
                clear GX3 GR3 B3 x0 x1 x2 x3 x4 x5 y0 y1 y2 y3 y4 y5
                have x0 := cell_row (j := 0) GX7.out rfl
                have x1 := cell_row (j := 1) GX7.out rfl
                have x2 := cell_row (j := 2) GX7.out rfl
                have x3 := cell_row (j := 3) GX7.out rfl
                have x4 := cell_row (j := 4) GX7.out rfl
                have x5 := cell_row (j := 5) GX7.out rfl
                have y0 : (w7).frozen? ⟨g + 1, 0, none⟩ = false := frozen_of_row _ _ _ _ _ GX7.out
                have y1 : (w7).frozen? ⟨g + 1, 1, none⟩ = false := frozen_of_row _ _ _ _ _ GX7.out
                have y2 : (w7).frozen? ⟨g + 1, 2, none⟩ = false := frozen_of_row _ _ _ _ _ GX7.out
                have y3 : (w7).frozen? ⟨g + 1, 3, none⟩ = false := frozen_of_row _ _ _ _ _ GX7.out
                have y4 : (w7).frozen? ⟨g + 1, 4, none⟩ = false := frozen_of_row _ _ _ _ _ GX7.out
                have y5 : (w7).frozen? ⟨g + 1, 5, none⟩ = false := frozen_of_row _ _ _ _ _ GX7.out
                go_upto_region 39 with fail
                have GX8 : Hid ((w7.setCell ⟨g + 1, 3, none⟩ (.int .u16 (bv : Int))).heap[g + 1]? = some (.cells #[.string lb', .int .u8 25, .int .u8 (av : Int), .int .u16 (bv : Int), .int .u32 0, .string ⟨#[]⟩] 34 (0, 0))) := heap_setCell_same _ _ _ _ _ _ GX7.out
                have GR8 : Hid ((w7.setCell ⟨g + 1, 3, none⟩ (.int .u16 (bv : Int))).heap[g]? = some (.cells #[.string ⟨#[]⟩, .int .u8 0, .int .u8 0, .int .u16 0, .int .u32 0, .string ⟨#[]⟩] 34 (0, 0))) := (heap_setCell_other _ _ _ _ (Nat.ne_of_lt (Nat.lt_succ_self g))).trans GR7.out
                have B8 : Hid (Below g w (w7.setCell ⟨g + 1, 3, none⟩ (.int .u16 (bv : Int)))) := B7.out.setCell (p := ⟨g + 1, 3, none⟩) (Nat.le_succ g) _
                generalize w7.setCell ⟨g + 1, 3, none⟩ (.int .u16 (bv : Int)) = w8 at *
                clear GX7 GR7 B7 x0 x1 x2 x3 x4 x5 y0 y1 y2 y3 y4 y5
                have x0 := cell_row (j := 0) GX8.out rfl
                have x1 := cell_row (j := 1) GX8.out rfl
                have x2 := cell_row (j := 2) GX8.out rfl
                have x3 := cell_row (j := 3) GX8.out rfl
                have x4 := cell_row (j := 4) GX8.out rfl
                have x5 := cell_row (j := 5) GX8.out rfl
                have y0 : (w8).frozen? ⟨g + 1, 0, none⟩ = false := frozen_of_row _ _ _ _ _ GX8.out
                have y1 : (w8).frozen? ⟨g + 1, 1, none⟩ = false := frozen_of_row _ _ _ _ _ GX8.out
                have y2 : (w8).frozen? ⟨g + 1, 2, none⟩ = false := frozen_of_row _ _ _ _ _ GX8.out
                have y3 : (w8).frozen? ⟨g + 1, 3, none⟩ = false := frozen_of_row _ _ _ _ _ GX8.out
                have y4 : (w8).frozen? ⟨g + 1, 4, none⟩ = false := frozen_of_row _ _ _ _ _ GX8.out
                have y5 : (w8).frozen? ⟨g + 1, 5, none⟩ = false := frozen_of_row _ _ _ _ _ GX8.out
                have r0 := cell_row (j := 0) GR8.out rfl
                have r1 := cell_row (j := 1) GR8.out rfl
                have r2 := cell_row (j := 2) GR8.out rfl
                have r3 := cell_row (j := 3) GR8.out rfl
                have r4 := cell_row (j := 4) GR8.out rfl
                have r5 := cell_row (j := 5) GR8.out rfl
                have z0 : (w8).frozen? ⟨g, 0, none⟩ = false := frozen_of_row _ _ _ _ _ GR8.out
                have z1 : (w8).frozen? ⟨g, 1, none⟩ = false := frozen_of_row _ _ _ _ _ GR8.out
                have z2 : (w8).frozen? ⟨g, 2, none⟩ = false := frozen_of_row _ _ _ _ _ GR8.out
                have z3 : (w8).frozen? ⟨g, 3, none⟩ = false := frozen_of_row _ _ _ _ _ GR8.out
                have z4 : (w8).frozen? ⟨g, 4, none⟩ = false := frozen_of_row _ _ _ _ _ GR8.out
                have z5 : (w8).frozen? ⟨g, 5, none⟩ = false := frozen_of_row _ _ _ _ _ GR8.out
                go_wp2_with fail
                try simp only [Exit.inBlock, Exit.then]
                refine bodyPost_ret (results_cell_tmp rfl _ _ g 34 #[.string lb', .int .u8 25, .int .u8 (av : Int), .int .u16 (bv : Int), .int .u32 0, .string ⟨#[]⟩] (0, 0) _ _ rfl rfl (set6_heap GR8.out rfl _ _ _ _ _ _) Tryz.underlying34 rfl infoA) rfl ?_
                refine ⟨⟨⟨⟨lb', ⟨25, av, bv, 0⟩, ⟨#[]⟩⟩, by first | (rw [HLS]; done) | (rw [HLS]; rfl), fun h => by (rw [HLS] at h ⊢) <;> first | rfl | cases h⟩⟩, ?_⟩
                rw [hgw]
                exact set6_below B8.out (Nat.le_refl g) _ _ _ _ _ _
      · have HLS := HLS.trans (opS_bad (.inr (by rw [hnv]; exact hn2)))
        have t9 : (((nv : Int) + 1) != 3) = true := bne_iff_ne.2 (by omega)
        have r0 := cell_row (j := 0) GR3.out rfl
        have r1 := cell_row (j := 1) GR3.out rfl
        have r2 := cell_row (j := 2) GR3.out rfl
        have r3 := cell_row (j := 3) GR3.out rfl
        have r4 := cell_row (j := 4) GR3.out rfl
        have r5 := cell_row (j := 5) GR3.out rfl
        have z0 : (w3).frozen? ⟨g, 0, none⟩ = false := frozen_of_row _ _ _ _ _ GR3.out
        have z1 : (w3).frozen? ⟨g, 1, none⟩ = false := frozen_of_row _ _ _ _ _ GR3.out
        have z2 : (w3).frozen? ⟨g, 2, none⟩ = false := frozen_of_row _ _ _ _ _ GR3.out
        have z3 : (w3).frozen? ⟨g, 3, none⟩ = false := frozen_of_row _ _ _ _ _ GR3.out
        have z4 : (w3).frozen? ⟨g, 4, none⟩ = false := frozen_of_row _ _ _ _ _ GR3.out
        have z5 : (w3).frozen? ⟨g, 5, none⟩ = false := frozen_of_row _ _ _ _ _ GR3.out
        go_wp2_with fail
        try simp only [Exit.inBlock, Exit.then]
        refine bodyPost_ret (results_cell_tmp rfl _ _ g 34 #[.string lb', .int .u8 (25 : Int), .int .u8 (z : Int), .int .u16 0, .int .u32 0, .string ⟨#[]⟩] (0, 0) _ _ rfl rfl (set6_heap GR3.out rfl _ _ _ _ _ _) Tryz.underlying34 rfl infoA) rfl ?_
        refine ⟨⟨⟨⟨lb', ⟨25, z, 0, 0⟩, ⟨#[]⟩⟩, by first | (rw [HLS]; done) | (rw [HLS]; rfl), fun h => by (rw [HLS] at h ⊢) <;> first | rfl | cases h⟩⟩, ?_⟩
        rw [hgw]
        exact set6_below B3.out (Nat.le_refl g) _ _ _ _ _ _
    · skip
      by_cases hn1 : nv = 1
      · have HLS := HLS.trans (opS_arg (by decide) (by decide) (by rw [hnv]; exact hn1))
        subst hn1
        obtain ⟨v0, hv0⟩ : ∃ v0, v0 = vs.getD 0 eS := ⟨_, rfl⟩
        have HSV : Hid (v0.size ≤ 281474976710656) := by rw [hv0]; exact HSN.out 0 (by omega)
        have u1 : w3.cell? ⟨b', off' + 1, none⟩ = some (.string v0) := by rw [hv0]; exact HCN.out w3 B3.out 0 (by omega)
        rw [← hv0] at HLS
        clear hv0
        go_wp2_with fail
        refine (rjumps_any 1 w3).mono ?_
        rintro e w' ⟨rfl, hw⟩
        obtain rfl : w3 = w' := hw.symm
        rw [show jumpB 1 = false from rfl]
        have HLS : lineS ws = (match numL v0.data.toList with | some c => (0, ⟨lb', ⟨1, z, 0, c⟩, eS⟩) | none => (42, al0)) := HLS
        go_wp2_with fail
        have hV := Lib.hid (rvalue_big v0 w3 HSV.out)
        refine hV.out.mono ?_
        clear hV
        rintro e w' ⟨rfl, hw⟩
        obtain rfl : w3 = w' := hw.symm
        cases hx : numL v0.data.toList with
        | none =>
          rw [hx] at HLS
          rw [valV_none hx]
          have r0 := cell_row (j := 0) GR3.out rfl
          have r1 := cell_row (j := 1) GR3.out rfl
          have r2 := cell_row (j := 2) GR3.out rfl
          have r3 := cell_row (j := 3) GR3.out rfl
          have r4 := cell_row (j := 4) GR3.out rfl
          have r5 := cell_row (j := 5) GR3.out rfl
          have z0 : (w3).frozen? ⟨g, 0, none⟩ = false := frozen_of_row _ _ _ _ _ GR3.out
          have z1 : (w3).frozen? ⟨g, 1, none⟩ = false := frozen_of_row _ _ _ _ _ GR3.out
          have z2 : (w3).frozen? ⟨g, 2, none⟩ = false := frozen_of_row _ _ _ _ _ GR3.out
          have z3 : (w3).frozen? ⟨g, 3, none⟩ = false := frozen_of_row _ _ _ _ _ GR3.out
          have z4 : (w3).frozen? ⟨g, 4, none⟩ = false := frozen_of_row _ _ _ _ _ GR3.out
          have z5 : (w3).frozen? ⟨g, 5, none⟩ = false := frozen_of_row _ _ _ _ _ GR3.out
          go_wp2_with fail
          try simp only [Exit.inBlock, Exit.then]
          refine bodyPost_ret (results_cell_tmp rfl _ _ g 34 #[.string lb', .int .u8 1, .int .u8 (z : Int), .int .u16 0, .int .u32 0, .string ⟨#[]⟩] (0, 0) _ _ rfl rfl (set6_heap GR3.out rfl _ _ _ _ _ _) Tryz.underlying34 rfl infoA) rfl ?_
          refine ⟨⟨⟨⟨lb', ⟨1, z, 0, 0⟩, ⟨#[]⟩⟩, by first | (rw [HLS]; done) | (rw [HLS]; rfl), fun h => by (rw [HLS] at h ⊢) <;> first | rfl | cases h⟩⟩, ?_⟩
          rw [hgw]
          exact set6_below B3.out (Nat.le_refl g) _ _ _ _ _ _
        | some cv =>
          have hcv : cv < 4294967296 := by have := numL_le hx; omega
          rw [hx] at HLS
          rw [valV_ok hx (by omega)]
          have t7 : decide ((cv : Int) < 0) = false := decide_eq_false (by omega)
          go_upto_region 30 with fail
          have GX7 : Hid ((w3.setCell ⟨g + 1, 4, none⟩ (.int .u32 (cv : Int))).heap[g + 1]? = some (.cells #[.string lb', .int .u8 1, .int .u8 (z : Int), .int .u16 0, .int .u32 (cv : Int), .string ⟨#[]⟩] 34 (0, 0))) := heap_setCell_same _ _ _ _ _ _ GX3.out
          have GR7 : Hid ((w3.setCell ⟨g + 1, 4, none⟩ (.int .u32 (cv : Int))).heap[g]? = some (.cells #[.string ⟨#[]⟩, .int .u8 0, .int .u8 0, .int .u16 0, .int .u32 0, .string ⟨#[]⟩] 34 (0, 0))) := (heap_setCell_other _ _ _ _ (Nat.ne_of_lt (Nat.lt_succ_self g))).trans GR3.out
          have B7 : Hid (Below g w (w3.setCell ⟨g + 1, 4, none⟩ (.int .u32 (cv : Int)))) := B3.out.setCell (p := ⟨g + 1, 4, none⟩) (Nat.le_succ g) _
          generalize w3.setCell ⟨g + 1, 4, none⟩ (.int .u32 (cv : Int)) = w7 at *
          clear GX3 GR3 B3 x0 x1 x2 x3 x4 x5 y0 y1 y2 y3 y4 y5
          have x0 := cell_row (j := 0) GX7.out rfl
          have x1 := cell_row (j := 1) GX7.out rfl
          have x2 := cell_row (j := 2) GX7.out rfl
          have x3 := cell_row (j := 3) GX7.out rfl
          have x4 := cell_row (j := 4) GX7.out rfl
          have x5 := cell_row (j := 5) GX7.out rfl
          have y0 : (w7).frozen? ⟨g + 1, 0, none⟩ = false := frozen_of_row _ _ _ _ _ GX7.out
          have y1 : (w7).frozen? ⟨g + 1, 1, none⟩ = false := frozen_of_row _ _ _ _ _ GX7.out
          have y2 : (w7).frozen? ⟨g + 1, 2, none⟩ = false := frozen_of_row _ _ _ _ _ GX7.out
          have y3 : (w7).frozen? ⟨g + 1, 3, none⟩ = false := frozen_of_row _ _ _ _ _ GX7.out
          have y4 : (w7).frozen? ⟨g + 1, 4, none⟩ = false := frozen_of_row _ _ _ _ _ GX7.out
          have y5 : (w7).frozen? ⟨g + 1, 5, none⟩ = false := frozen_of_row _ _ _ _ _ GX7.out
          have r0 := cell_row (j := 0) GR7.out rfl
          have r1 := cell_row (j := 1) GR7.out rfl
          have r2 := cell_row (j := 2) GR7.out rfl
          have r3 := cell_row (j := 3) GR7.out rfl
          have r4 := cell_row (j := 4) GR7.out rfl
          have r5 := cell_row (j := 5) GR7.out rfl
          have z0 : (w7).frozen? ⟨g, 0, none⟩ = false := frozen_of_row _ _ _ _ _ GR7.out
          have z1 : (w7).frozen? ⟨g, 1, none⟩ = false := frozen_of_row _ _ _ _ _ GR7.out
          have z2 : (w7).frozen? ⟨g, 2, none⟩ = false := frozen_of_row _ _ _ _ _ GR7.out
          have z3 : (w7).frozen? ⟨g, 3, none⟩ = false := frozen_of_row _ _ _ _ _ GR7.out
          have z4 : (w7).frozen? ⟨g, 4, none⟩ = false := frozen_of_row _ _ _ _ _ GR7.out
          have z5 : (w7).frozen? ⟨g, 5, none⟩ = false := frozen_of_row _ _ _ _ _ GR7.out
          go_wp2_with fail
          try simp only [Exit.inBlock, Exit.then]
          refine bodyPost_ret (results_cell_tmp rfl _ _ g 34 #[.string lb', .int .u8 1, .int .u8 (z : Int), .int .u16 0, .int .u32 (cv : Int), .string ⟨#[]⟩] (0, 0) _ _ rfl rfl (set6_heap GR7.out rfl _ _ _ _ _ _) Tryz.underlying34 rfl infoA) rfl ?_
          refine ⟨⟨⟨⟨lb', ⟨1, z, 0, cv⟩, ⟨#[]⟩⟩, by first | (rw [HLS]; done) | (rw [HLS]; rfl), fun h => by (rw [HLS] at h ⊢) <;> first | rfl | cases h⟩⟩, ?_⟩
          rw [hgw]
          exact set6_below B7.out (Nat.le_refl g) _ _ _ _ _ _
      · have HLS := HLS.trans (opS_bad (.inr (by rw [hnv]; exact hn1)))
        have t9 : (((nv : Int) + 1) != 2) = true := bne_iff_ne.2 (by omega)
        have r0 := cell_row (j := 0) GR3.out rfl
        have r1 := cell_row (j := 1) GR3.out rfl
        have r2 := cell_row (j := 2) GR3.out rfl
        have r3 := cell_row (j := 3) GR3.out rfl
        have r4 := cell_row (j := 4) GR3.out rfl
        have r5 := cell_row (j := 5) GR3.out rfl
        have z0 : (w3).frozen? ⟨g, 0, none⟩ = false := frozen_of_row _ _ _ _ _ GR3.out
        have z1 : (w3).frozen? ⟨g, 1, none⟩ = false := frozen_of_row _ _ _ _ _ GR3.out
        have z2 : (w3).frozen? ⟨g, 2, none⟩ = false := frozen_of_row _ _ _ _ _ GR3.out
        have z3 : (w3).frozen? ⟨g, 3, none⟩ = false := frozen_of_row _ _ _ _ _ GR3.out
        have z4 : (w3).frozen? ⟨g, 4, none⟩ = false := frozen_of_row _ _ _ _ _ GR3.out
        have z5 : (w3).frozen? ⟨g, 5, none⟩ = false := frozen_of_row _ _ _ _ _ GR3.out
        go_wp2_with fail
        try simp only [Exit.inBlock, Exit.then]
        refine bodyPost_ret (results_cell_tmp rfl _ _ g 34 #[.string lb', .int .u8 (1 : Int), .int .u8 (z : Int), .int .u16 0, .int .u32 0, .string ⟨#[]⟩] (0, 0) _ _ rfl rfl (set6_heap GR3.out rfl _ _ _ _ _ _) Tryz.underlying34 rfl infoA) rfl ?_
        refine ⟨⟨⟨⟨lb', ⟨1, z, 0, 0⟩, ⟨#[]⟩⟩, by first | (rw [HLS]; done) | (rw [HLS]; rfl), fun h => by (rw [HLS] at h ⊢) <;> first | rfl | cases h⟩⟩, ?_⟩
        rw [hgw]
        exact set6_below B3.out (Nat.le_refl g) _ _ _ _ _ _
    · skip
      by_cases hn1 : nv = 1
      · have HLS := HLS.trans (opS_arg (by decide) (by decide) (by rw [hnv]; exact hn1))
        subst hn1
        obtain ⟨v0, hv0⟩ : ∃ v0, v0 = vs.getD 0 eS := ⟨_, rfl⟩
        have HSV : Hid (v0.size ≤ 281474976710656) := by rw [hv0]; exact HSN.out 0 (by omega)
        have u1 : w3.cell? ⟨b', off' + 1, none⟩ = some (.string v0) := by rw [hv0]; exact HCN.out w3 B3.out 0 (by omega)
        rw [← hv0] at HLS
        clear hv0
        go_wp2_with fail
        refine (rjumps_any 17 w3).mono ?_
        rintro e w' ⟨rfl, hw⟩
        obtain rfl : w3 = w' := hw.symm
        rw [show jumpB 17 = false from rfl]
        have HLS : lineS ws = (match numL v0.data.toList with | some c => (0, ⟨lb', ⟨17, z, 0, c⟩, eS⟩) | none => (42, al0)) := HLS
        go_wp2_with fail
        have hV := Lib.hid (rvalue_big v0 w3 HSV.out)
        refine hV.out.mono ?_
        clear hV
        rintro e w' ⟨rfl, hw⟩
        obtain rfl : w3 = w' := hw.symm
        cases hx : numL v0.data.toList with
        | none =>
          rw [hx] at HLS
          rw [valV_none hx]
          have r0 := cell_row (j := 0) GR3.out rfl
          have r1 := cell_row (j := 1) GR3.out rfl
          have r2 := cell_row (j := 2) GR3.out rfl
          have r3 := cell_row (j := 3) GR3.out rfl
          have r4 := cell_row (j := 4) GR3.out rfl
          have r5 := cell_row (j := 5) GR3.out rfl
          have z0 : (w3).frozen? ⟨g, 0, none⟩ = false := frozen_of_row _ _ _ _ _ GR3.out
          have z1 : (w3).frozen? ⟨g, 1, none⟩ = false := frozen_of_row _ _ _ _ _ GR3.out
          have z2 : (w3).frozen? ⟨g, 2, none⟩ = false := frozen_of_row _ _ _ _ _ GR3.out
          have z3 : (w3).frozen? ⟨g, 3, none⟩ = false := frozen_of_row _ _ _ _ _ GR3.out
          have z4 : (w3).frozen? ⟨g, 4, none⟩ = false := frozen_of_row _ _ _ _ _ GR3.out
          have z5 : (w3).frozen? ⟨g, 5, none⟩ = false := frozen_of_row _ _ _ _ _ GR3.out
          go_wp2_with fail
          try simp only [Exit.inBlock, Exit.then]
          refine bodyPost_ret (results_cell_tmp rfl _ _ g 34 #[.string lb', .int .u8 17, .int .u8 (z : Int), .int .u16 0, .int .u32 0, .string ⟨#[]⟩] (0, 0) _ _ rfl rfl (set6_heap GR3.out rfl _ _ _ _ _ _) Tryz.underlying34 rfl infoA) rfl ?_
          refine ⟨⟨⟨⟨lb', ⟨17, z, 0, 0⟩, ⟨#[]⟩⟩, by first | (rw [HLS]; done) | (rw [HLS]; rfl), fun h => by (rw [HLS] at h ⊢) <;> first | rfl | cases h⟩⟩, ?_⟩
          rw [hgw]
          exact set6_below B3.out (Nat.le_refl g) _ _ _ _ _ _
        | some cv =>
          have hcv : cv < 4294967296 := by have := numL_le hx; omega
          rw [hx] at HLS
          rw [valV_ok hx (by omega)]
          have t7 : decide ((cv : Int) < 0) = false := decide_eq_false (by omega)
          go_upto_region 30 with fail
          have GX7 : Hid ((w3.setCell ⟨g + 1, 4, none⟩ (.int .u32 (cv : Int))).heap[g + 1]? = some (.cells #[.string lb', .int .u8 17, .int .u8 (z : Int), .int .u16 0, .int .u32 (cv : Int), .string ⟨#[]⟩] 34 (0, 0))) := heap_setCell_same _ _ _ _ _ _ GX3.out
          have GR7 : Hid ((w3.setCell ⟨g + 1, 4, none⟩ (.int .u32 (cv : Int))).heap[g]? = some (.cells #[.string ⟨#[]⟩, .int .u8 0, .int .u8 0, .int .u16 0, .int .u32 0, .string ⟨#[]⟩] 34 (0, 0))) := (heap_setCell_other _ _ _ _ (Nat.ne_of_lt (Nat.lt_succ_self g))).trans GR3.out
          have B7 : Hid (Below g w (w3.setCell ⟨g + 1, 4, none⟩ (.int .u32 (cv : Int)))) := B3.out.setCell (p := ⟨g + 1, 4, none⟩) (Nat.le_succ g) _
          generalize w3.setCell ⟨g + 1, 4, none⟩ (.int .u32 (cv : Int)) = w7 at *
          clear GX3 GR3 B3 x0 x1 x2 x3 x4 x5 y0 y1 y2 y3 y4 y5
          have x0 := cell_row (j := 0) GX7.out rfl
          have x1 := cell_row (j := 1) GX7.out rfl
          have x2 := cell_row (j := 2) GX7.out rfl
          have x3 := cell_row (j := 3) GX7.out rfl
          have x4 := cell_row (j := 4) GX7.out rfl
          have x5 := cell_row (j := 5) GX7.out rfl
          have y0 : (w7).frozen? ⟨g + 1, 0, none⟩ = false := frozen_of_row _ _ _ _ _ GX7.out
          have y1 : (w7).frozen? ⟨g + 1, 1, none⟩ = false := frozen_of_row _ _ _ _ _ GX7.out
          have y2 : (w7).frozen? ⟨g + 1, 2, none⟩ = false := frozen_of_row _ _ _ _ _ GX7.out
          have y3 : (w7).frozen? ⟨g + 1, 3, none⟩ = false := frozen_of_row _ _ _ _ _ GX7.out
          have y4 : (w7).frozen? ⟨g + 1, 4, none⟩ = false := frozen_of_row _ _ _ _ _ GX7.out
          have y5 : (w7).frozen? ⟨g + 1, 5, none⟩ = false := frozen_of_row _ _ _ _ _ GX7.out
          have r0 := cell_row (j := 0) GR7.out rfl
          have r1 := cell_row (j := 1) GR7.out rfl
          have r2 := cell_row (j := 2) GR7.out rfl
          have r3 := cell_row (j := 3) GR7.out rfl
          have r4 := cell_row (j := 4) GR7.out rfl
          have r5 := cell_row (j := 5) GR7.out rfl
          have z0 : (w7).frozen? ⟨g, 0, none⟩ = false := frozen_of_row _ _ _ _ _ GR7.out
          have z1 : (w7).frozen? ⟨g, 1, none⟩ = false := frozen_of_row _ _ _ _ _ GR7.out
          have z2 : (w7).frozen? ⟨g, 2, none⟩ = false := frozen_of_row _ _ _ _ _ GR7.out
          have z3 : (w7).frozen? ⟨g, 3, none⟩ = false := frozen_of_row _ _ _ _ _ GR7.out
          have z4 : (w7).frozen? ⟨g, 4, none⟩ = false := frozen_of_row _ _ _ _ _ GR7.out
          have z5 : (w7).frozen? ⟨g, 5, none⟩ = false := frozen_of_row _ _ _ _ _ GR7.out
          go_wp2_with fail
          try simp only [Exit.inBlock, Exit.then]
          refine bodyPost_ret (results_cell_tmp rfl _ _ g 34 #[.string lb', .int .u8 17, .int .u8 (z : Int), .int .u16 0, .int .u32 (cv : Int), .string ⟨#[]⟩] (0, 0) _ _ rfl rfl (set6_heap GR7.out rfl _ _ _ _ _ _) Tryz.underlying34 rfl infoA) rfl ?_
          refine ⟨⟨⟨⟨lb', ⟨17, z, 0, cv⟩, ⟨#[]⟩⟩, by first | (rw [HLS]; done) | (rw [HLS]; rfl), fun h => by (rw [HLS] at h ⊢) <;> first | rfl | cases h⟩⟩, ?_⟩
          rw [hgw]
          exact set6_below B7.out (Nat.le_refl g) _ _ _ _ _ _
      · have HLS := HLS.trans (opS_bad (.inr (by rw [hnv]; exact hn1)))
        have t9 : (((nv : Int) + 1) != 2) = true := bne_iff_ne.2 (by omega)
        have r0 := cell_row (j := 0) GR3.out rfl
        have r1 := cell_row (j := 1) GR3.out rfl
        have r2 := cell_row (j := 2) GR3.out rfl
        have r3 := cell_row (j := 3) GR3.out rfl
        have r4 := cell_row (j := 4) GR3.out rfl
        have r5 := cell_row (j := 5) GR3.out rfl
        have z0 : (w3).frozen? ⟨g, 0, none⟩ = false := frozen_of_row _ _ _ _ _ GR3.out
        have z1 : (w3).frozen? ⟨g, 1, none⟩ = false := frozen_of_row _ _ _ _ _ GR3.out
        have z2 : (w3).frozen? ⟨g, 2, none⟩ = false := frozen_of_row _ _ _ _ _ GR3.out
        have z3 : (w3).frozen? ⟨g, 3, none⟩ = false := frozen_of_row _ _ _ _ _ GR3.out
        have z4 : (w3).frozen? ⟨g, 4, none⟩ = false := frozen_of_row _ _ _ _ _ GR3.out
        have z5 : (w3).frozen? ⟨g, 5, none⟩ = false := frozen_of_row _ _ _ _ _ GR3.out
        go_wp2_with fail
        try simp only [Exit.inBlock, Exit.then]
        refine bodyPost_ret (results_cell_tmp rfl _ _ g 34 #[.string lb', .int .u8 (17 : Int), .int .u8 (z : Int), .int .u16 0, .int .u32 0, .string ⟨#[]⟩] (0, 0) _ _ rfl rfl (set6_heap GR3.out rfl _ _ _ _ _ _) Tryz.underlying34 rfl infoA) rfl ?_
        refine ⟨⟨⟨⟨lb', ⟨17, z, 0, 0⟩, ⟨#[]⟩⟩, by first | (rw [HLS]; done) | (rw [HLS]; rfl), fun h => by (rw [HLS] at h ⊢) <;> first | rfl | cases h⟩⟩, ?_⟩
        rw [hgw]
        exact set6_below B3.out (Nat.le_refl g) _ _ _ _ _ _
    · skip
      by_cases hn1 : nv = 1
      · have HLS := HLS.trans (opS_arg (by decide) (by decide) (by rw [hnv]; exact hn1))
        subst hn1
        obtain ⟨v0, hv0⟩ : ∃ v0, v0 = vs.getD 0 eS := ⟨_, rfl⟩
        have HSV : Hid (v0.size ≤ 281474976710656) := by rw [hv0]; exact HSN.out 0 (by omega)
        have u1 : w3.cell? ⟨b', off' + 1, none⟩ = some (.string v0) := by rw [hv0]; exact HCN.out w3 B3.out 0 (by omega)
        rw [← hv0] at HLS
        clear hv0
        go_wp2_with fail
        refine (rjumps_any 18 w3).mono ?_
        rintro e w' ⟨rfl, hw⟩
        obtain rfl : w3 = w' := hw.symm
        rw [show jumpB 18 = false from rfl]
        have HLS : lineS ws = (match numL v0.data.toList with | some c => (0, ⟨lb', ⟨18, z, 0, c⟩, eS⟩) | none => (42, al0)) := HLS
        go_wp2_with fail
        have hV := Lib.hid (rvalue_big v0 w3 HSV.out)
        refine hV.out.mono ?_
        clear hV
        rintro e w' ⟨rfl, hw⟩
        obtain rfl : w3 = w' := hw.symm
        cases hx : numL v0.data.toList with
        | none =>
          rw [hx] at HLS
          rw [valV_none hx]
          have r0 := cell_row (j := 0) GR3.out rfl
          have r1 := cell_row (j := 1) GR3.out rfl
          have r2 := cell_row (j := 2) GR3.out rfl
          have r3 := cell_row (j := 3) GR3.out rfl
          have r4 := cell_row (j := 4) GR3.out rfl
          have r5 := cell_row (j := 5) GR3.out rfl
          have z0 : (w3).frozen? ⟨g, 0, none⟩ = false := frozen_of_row _ _ _ _ _ GR3.out
          have z1 : (w3).frozen? ⟨g, 1, none⟩ = false := frozen_of_row _ _ _ _ _ GR3.out
          have z2 : (w3).frozen? ⟨g, 2, none⟩ = false := frozen_of_row _ _ _ _ _ GR3.out
          have z3 : (w3).frozen? ⟨g, 3, none⟩ = false := frozen_of_row _ _ _ _ _ GR3.out
          have z4 : (w3).frozen? ⟨g, 4, none⟩ = false := frozen_of_row _ _ _ _ _ GR3.out
          have z5 : (w3).frozen? ⟨g, 5, none⟩ = false := frozen_of_row _ _ _ _ _ GR3.out
          go_wp2_with fail
          try simp only [Exit.inBlock, Exit.then]
          refine bodyPost_ret (results_cell_tmp rfl _ _ g 34 #[.string lb', .int .u8 18, .int .u8 (z : Int), .int .u16 0, .int .u32 0, .string ⟨#[]⟩] (0, 0) _ _ rfl rfl (set6_heap GR3.out rfl _ _ _ _ _ _) Tryz.underlying34 rfl infoA) rfl ?_
          refine ⟨⟨⟨⟨lb', ⟨18, z, 0, 0⟩, ⟨#[]⟩⟩, by first | (rw [HLS]; done) | (rw [HLS]; rfl), fun h => by (rw [HLS] at h ⊢) <;> first | rfl | cases h⟩⟩, ?_⟩
          rw [hgw]
          exact set6_below B3.out (Nat.le_refl g) _ _ _ _ _ _
        | some cv =>
          have hcv : cv < 4294967296 := by have := numL_le hx; omega
          rw [hx] at HLS
          rw [valV_ok hx (by omega)]
          have t7 : decide ((cv : Int) < 0) = false := decide_eq_false (by omega)
          go_upto_region 30 with fail
          have GX7 : Hid ((w3.setCell ⟨g + 1, 4, none⟩ (.int .u32 (cv : Int))).heap[g + 1]? = some (.cells #[.string lb', .int .u8 18, .int .u8 (z : Int), .int .u16 0, .int .u32 (cv : Int), .string ⟨#[]⟩] 34 (0, 0))) := heap_setCell_same _ _ _ _ _ _ GX3.out
          have GR7 : Hid ((w3.setCell ⟨g + 1, 4, none⟩ (.int .u32 (cv : Int))).heap[g]? = some (.cells #[.string ⟨#[]⟩, .int .u8 0, .int .u8 0, .int .u16 0, .int .u32 0, .string ⟨#[]⟩] 34 (0, 0))) := (heap_setCell_other _ _ _ _ (Nat.ne_of_lt (Nat.lt_succ_self g))).trans GR3.out
          have B7 : Hid (Below g w (w3.setCell ⟨g + 1, 4, none⟩ (.int .u32 (cv : Int)))) := B3.out.setCell (p := ⟨g + 1, 4, none⟩) (Nat.le_succ g) _
          generalize w3.setCell ⟨g + 1, 4, none⟩ (.int .u32 (cv : Int)) = w7 at *
          clear GX3 GR3 B3 x0 x1 x2 x3 x4 x5 y0 y1 y2 y3 y4 y5
          have x0 := cell_row (j := 0) GX7.out rfl
          have x1 := cell_row (j := 1) GX7.out rfl
          have x2 := cell_row (j := 2) GX7.out rfl
          have x3 := cell_row (j := 3) GX7.out rfl
          have x4 := cell_row (j := 4) GX7.out rfl
          have x5 := cell_row (j := 5) GX7.out rfl
          have y0 : (w7).frozen? ⟨g + 1, 0, none⟩ = false := frozen_of_row _ _ _ _ _ GX7.out
          have y1 : (w7).frozen? ⟨g + 1, 1, none⟩ = false := frozen_of_row _ _ _ _ _ GX7.out
          have y2 : (w7).frozen? ⟨g + 1, 2, none⟩ = false := frozen_of_row _ _ _ _ _ GX7.out
          have y3 : (w7).frozen? ⟨g + 1, 3, none⟩ = false := frozen_of_row _ _ _ _ _ GX7.out
          have y4 : (w7).frozen? ⟨g + 1, 4, none⟩ = false := frozen_of_row _ _ _ _ _ GX7.out
          have y5 : (w7).frozen? ⟨g + 1, 5, none⟩ = false := frozen_of_row _ _ _ _ _ GX7.out
          have r0 := cell_row (j := 0) GR7.out rfl
          have r1 := cell_row (j := 1) GR7.out rfl
          have r2 := cell_row (j := 2) GR7.out rfl
          have r3 := cell_row (j := 3) GR7.out rfl
          have r4 := cell_row (j := 4) GR7.out rfl
          have r5 := cell_row (j := 5) GR7.out rfl
          have z0 : (w7).frozen? ⟨g, 0, none⟩ = false := frozen_of_row _ _ _ _ _ GR7.out
          have z1 : (w7).frozen? ⟨g, 1, none⟩ = false := frozen_of_row _ _ _ _ _ GR7.out
          have z2 : (w7).frozen? ⟨g, 2, none⟩ = false := frozen_of_row _ _ _ _ _ GR7.out
          have z3 : (w7).frozen? ⟨g, 3, none⟩ = false := frozen_of_row _ _ _ _ _ GR7.out
          have z4 : (w7).frozen? ⟨g, 4, none⟩ = false := frozen_of_row _ _ _ _ _ GR7.out
          have z5 : (w7).frozen? ⟨g, 5, none⟩ = false := frozen_of_row _ _ _ _ _ GR7.out
          go_wp2_with fail
          try simp only [Exit.inBlock, Exit.then]
          refine bodyPost_ret (results_cell_tmp rfl _ _ g 34 #[.string lb', .int .u8 18, .int .u8 (z : Int), .int .u16 0, .int .u32 (cv : Int), .string ⟨#[]⟩] (0, 0) _ _ rfl rfl (set6_heap GR7.out rfl _ _ _ _ _ _) Tryz.underlying34 rfl infoA) rfl ?_
          refine ⟨⟨⟨⟨lb', ⟨18, z, 0, cv⟩, ⟨#[]⟩⟩, by first | (rw [HLS]; done) | (rw [HLS]; rfl), fun h => by (rw [HLS] at h ⊢) <;> first | rfl | cases h⟩⟩, ?_⟩
          rw [hgw]
          exact set6_below B7.out (Nat.le_refl g) _ _ _ _ _ _
      · have HLS := HLS.trans (opS_bad (.inr (by rw [hnv]; exact hn1)))
        have t9 : (((nv : Int) + 1) != 2) = true := bne_iff_ne.2 (by omega)
        have r0 := cell_row (j := 0) GR3.out rfl
        have r1 := cell_row (j := 1) GR3.out rfl
        have r2 := cell_row (j := 2) GR3.out rfl
        have r3 := cell_row (j := 3) GR3.out rfl
        have r4 := cell_row (j := 4) GR3.out rfl
        have r5 := cell_row (j := 5) GR3.out rfl
        have z0 : (w3).frozen? ⟨g, 0, none⟩ = false := frozen_of_row _ _ _ _ _ GR3.out
        have z1 : (w3).frozen? ⟨g, 1, none⟩ = false := frozen_of_row _ _ _ _ _ GR3.out
        have z2 : (w3).frozen? ⟨g, 2, none⟩ = false := frozen_of_row _ _ _ _ _ GR3.out
        have z3 : (w3).frozen? ⟨g, 3, none⟩ = false := frozen_of_row _ _ _ _ _ GR3.out
        have z4 : (w3).frozen? ⟨g, 4, none⟩ = false := frozen_of_row _ _ _ _ _ GR3.out
        have z5 : (w3).frozen? ⟨g, 5, none⟩ = false := frozen_of_row _ _ _ _ _ GR3.out
        go_wp2_with fail
        try simp only [Exit.inBlock, Exit.then]
        refine bodyPost_ret (results_cell_tmp rfl _ _ g 34 #[.string lb', .int .u8 (18 : Int), .int .u8 (z : Int), .int .u16 0, .int .u32 0, .string ⟨#[]⟩] (0, 0) _ _ rfl rfl (set6_heap GR3.out rfl _ _ _ _ _ _) Tryz.underlying34 rfl infoA) rfl ?_
        refine ⟨⟨⟨⟨lb', ⟨18, z, 0, 0⟩, ⟨#[]⟩⟩, by first | (rw [HLS]; done) | (rw [HLS]; rfl), fun h => by (rw [HLS] at h ⊢) <;> first | rfl | cases h⟩⟩, ?_⟩
        rw [hgw]
        exact set6_below B3.out (Nat.le_refl g) _ _ _ _ _ _
    · skip
      by_cases hn1 : nv = 1
      · have HLS := HLS.trans (opS_arg (by decide) (by decide) (by rw [hnv]; exact hn1))
        subst hn1
        obtain ⟨v0, hv0⟩ : ∃ v0, v0 = vs.getD 0 eS := ⟨_, rfl⟩
        have HSV : Hid (v0.size ≤ 281474976710656) := by rw [hv0]; exact HSN.out 0 (by omega)
        have u1 : w3.cell? ⟨b', off' + 1, none⟩ = some (.string v0) := by rw [hv0]; exact HCN.out w3 B3.out 0 (by omega)
        rw [← hv0] at HLS
        clear hv0
        go_wp2_with fail
        refine (rjumps_any 19 w3).mono ?_
        rintro e w' ⟨rfl, hw⟩
        obtain rfl : w3 = w' := hw.symm
        rw [show jumpB 19 = true from rfl]
        go_wp2_with fail
        refine (rlabel_any v0 w3 (by have := HSV.out; omega)).mono ?_
        rintro e w' ⟨rfl, hw⟩
        obtain rfl : w3 = w' := hw.symm
        have HLS : lineS ws = if labelB v0 then (0, ⟨lb', ⟨19, z, 0, 0⟩, v0⟩) else (match numL v0.data.toList with | some c => (0, ⟨lb', ⟨19, z, 0, c⟩, eS⟩) | none => (42, al0)) := HLS
        cases hl0 : labelB v0 with
        | true =>
          rw [hl0, if_pos rfl] at HLS
          go_upto_region 24 with fail
          have GX7 : Hid ((w3.setCell ⟨g + 1, 5, none⟩ (.string v0)).heap[g + 1]? = some (.cells #[.string lb', .int .u8 19, .int .u8 (z : Int), .int .u16 0, .int .u32 0, .string v0] 34 (0, 0))) := heap_setCell_same _ _ _ _ _ _ GX3.out
          have GR7 : Hid ((w3.setCell ⟨g + 1, 5, none⟩ (.string v0)).heap[g]? = some (.cells #[.string ⟨#[]⟩, .int .u8 0, .int .u8 0, .int .u16 0, .int .u32 0, .string ⟨#[]⟩] 34 (0, 0))) := (heap_setCell_other _ _ _ _ (Nat.ne_of_lt (Nat.lt_succ_self g))).trans GR3.out
          have B7 : Hid (Below g w (w3.setCell ⟨g + 1, 5, none⟩ (.string v0))) := B3.out.setCell (p := ⟨g + 1, 5, none⟩) (Nat.le_succ g) _
          generalize w3.setCell ⟨g + 1, 5, none⟩ (.string v0) = w7 at *
          clear GX3 GR3 B3 x0 x1 x2 x3 x4 x5 y0 y1 y2 y3 y4 y5
          have x0 := cell_row (j := 0) GX7.out rfl
          have x1 := cell_row (j := 1) GX7.out rfl
          have x2 := cell_row (j := 2) GX7.out rfl
          have x3 := cell_row (j := 3) GX7.out rfl
          have x4 := cell_row (j := 4) GX7.out rfl
          have x5 := cell_row (j := 5) GX7.out rfl
          have y0 : (w7).frozen? ⟨g + 1, 0, none⟩ = false := frozen_of_row _ _ _ _ _ GX7.out
          have y1 : (w7).frozen? ⟨g + 1, 1, none⟩ = false := frozen_of_row _ _ _ _ _ GX7.out
          have y2 : (w7).frozen? ⟨g + 1, 2, none⟩ = false := frozen_of_row _ _ _ _ _ GX7.out
          have y3 : (w7).frozen? ⟨g + 1, 3, none⟩ = false := frozen_of_row _ _ _ _ _ GX7.out
          have y4 : (w7).frozen? ⟨g + 1, 4, none⟩ = false := frozen_of_row _ _ _ _ _ GX7.out
          have y5 : (w7).frozen? ⟨g + 1, 5, none⟩ = false := frozen_of_row _ _ _ _ _ GX7.out
          have r0 := cell_row (j := 0) GR7.out rfl
          have r1 := cell_row (j := 1) GR7.out rfl
          have r2 := cell_row (j := 2) GR7.out rfl
          have r3 := cell_row (j := 3) GR7.out rfl
          have r4 := cell_row (j := 4) GR7.out rfl
          have r5 := cell_row (j := 5) GR7.out rfl
          have z0 : (w7).frozen? ⟨g, 0, none⟩ = false := frozen_of_row _ _ _ _ _ GR7.out
          have z1 : (w7).frozen? ⟨g, 1, none⟩ = false := frozen_of_row _ _ _ _ _ GR7.out
          have z2 : (w7).frozen? ⟨g, 2, none⟩ = false := frozen_of_row _ _ _ _ _ GR7.out
          have z3 : (w7).frozen? ⟨g, 3, none⟩ = false := frozen_of_row _ _ _ _ _ GR7.out
          have z4 : (w7).frozen? ⟨g, 4, none⟩ = false := frozen_of_row _ _ _ _ _ GR7.out
          have z5 : (w7).frozen? ⟨g, 5, none⟩ = false := frozen_of_row _ _ _ _ _ GR7.out
          go_wp2_with fail
          try simp only [Exit.inBlock, Exit.then]
          refine bodyPost_ret (results_cell_tmp rfl _ _ g 34 #[.string lb', .int .u8 19, .int .u8 (z : Int), .int .u16 0, .int .u32 0, .string v0] (0, 0) _ _ rfl rfl (set6_heap GR7.out rfl _ _ _ _ _ _) Tryz.underlying34 rfl infoA) rfl ?_
          refine ⟨⟨⟨⟨lb', ⟨19, z, 0, 0⟩, v0⟩, by first | (rw [HLS]; done) | (rw [HLS]; rfl), fun h => by (rw [HLS] at h ⊢) <;> first | rfl | cases h⟩⟩, ?_⟩
          rw [hgw]
          exact set6_below B7.out (Nat.le_refl g) _ _ _ _ _ _
        | false =>
          rw [hl0, if_neg (by decide)] at HLS
          go_wp2_with fail
          have hV := Lib.hid (rvalue_big v0 w3 HSV.out)
          refine hV.out.mono ?_
          clear hV
          rintro e w' ⟨rfl, hw⟩
          obtain rfl : w3 = w' := hw.symm
          cases hx : numL v0.data.toList with
          | none =>
            rw [hx] at HLS
            rw [valV_none hx]
            have r0 := cell_row (j := 0) GR3.out rfl
            have r1 := cell_row (j := 1) GR3.out rfl
            have r2 := cell_row (j := 2) GR3.out rfl
            have r3 := cell_row (j := 3) GR3.out rfl
            have r4 := cell_row (j := 4) GR3.out rfl
            have r5 := cell_row (j := 5) GR3.out rfl
            have z0 : (w3).frozen? ⟨g, 0, none⟩ = false := frozen_of_row _ _ _ _ _ GR3.out
            have z1 : (w3).frozen? ⟨g, 1, none⟩ = false := frozen_of_row _ _ _ _ _ GR3.out
            have z2 : (w3).frozen? ⟨g, 2, none⟩ = false := frozen_of_row _ _ _ _ _ GR3.out
            have z3 : (w3).frozen? ⟨g, 3, none⟩ = false := frozen_of_row _ _ _ _ _ GR3.out
            have z4 : (w3).frozen? ⟨g, 4, none⟩ = false := frozen_of_row _ _ _ _ _ GR3.out
            have z5 : (w3).frozen? ⟨g, 5, none⟩ = false := frozen_of_row _ _ _ _ _ GR3.out
            go_wp2_with fail
            try simp only [Exit.inBlock, Exit.then]
            refine bodyPost_ret (results_cell_tmp rfl _ _ g 34 #[.string lb', .int .u8 19, .int .u8 (z : Int), .int .u16 0, .int .u32 0, .string ⟨#[]⟩] (0, 0) _ _ rfl rfl (set6_heap GR3.out rfl _ _ _ _ _ _) Tryz.underlying34 rfl infoA) rfl ?_
            refine ⟨⟨⟨⟨lb', ⟨19, z, 0, 0⟩, ⟨#[]⟩⟩, by first | (rw [HLS]; done) | (rw [HLS]; rfl), fun h => by (rw [HLS] at h ⊢) <;> first | rfl | cases h⟩⟩, ?_⟩
            rw [hgw]
            exact set6_below B3.out (Nat.le_refl g) _ _ _ _ _ _
          | some cv =>
            have hcv : cv < 4294967296 := by have := numL_le hx; omega
            rw [hx] at HLS
            rw [valV_ok hx (by omega)]
            have t7 : decide ((cv : Int) < 0) = false := decide_eq_false (by omega)
            go_upto_region 30 with fail
            have GX7 : Hid ((w3.setCell ⟨g + 1, 4, none⟩ (.int .u32 (cv : Int))).heap[g + 1]? = some (.cells #[.string lb', .int .u8 19, .int .u8 (z : Int), .int .u16 0, .int .u32 (cv : Int), .string ⟨#[]⟩] 34 (0, 0))) := heap_setCell_same _ _ _ _ _ _ GX3.out
            have GR7 : Hid ((w3.setCell ⟨g + 1, 4, none⟩ (.int .u32 (cv : Int))).heap[g]? = some (.cells #[.string ⟨#[]⟩, .int .u8 0, .int .u8 0, .int .u16 0, .int .u32 0, .string ⟨#[]⟩] 34 (0, 0))) := (heap_setCell_other _ _ _ _ (Nat.ne_of_lt (Nat.lt_succ_self g))).trans GR3.out
            have B7 : Hid (Below g w (w3.setCell ⟨g + 1, 4, none⟩ (.int .u32 (cv : Int)))) := B3.out.setCell (p := ⟨g + 1, 4, none⟩) (Nat.le_succ g) _
            generalize w3.setCell ⟨g + 1, 4, none⟩ (.int .u32 (cv : Int)) = w7 at *
            clear GX3 GR3 B3 x0 x1 x2 x3 x4 x5 y0 y1 y2 y3 y4 y5
            have x0 := cell_row (j := 0) GX7.out rfl
            have x1 := cell_row (j := 1) GX7.out rfl
            have x2 := cell_row (j := 2) GX7.out rfl
            have x3 := cell_row (j := 3) GX7.out rfl
            have x4 := cell_row (j := 4) GX7.out rfl
            have x5 := cell_row (j := 5) GX7.out rfl
            have y0 : (w7).frozen? ⟨g + 1, 0, none⟩ = false := frozen_of_row _ _ _ _ _ GX7.out
            have y1 : (w7).frozen? ⟨g + 1, 1, none⟩ = false := frozen_of_row _ _ _ _ _ GX7.out
            have y2 : (w7).frozen? ⟨g + 1, 2, none⟩ = false := frozen_of_row _ _ _ _ _ GX7.out
            have y3 : (w7).frozen? ⟨g + 1, 3, none⟩ = false := frozen_of_row _ _ _ _ _ GX7.out
            have y4 : (w7).frozen? ⟨g + 1, 4, none⟩ = false := frozen_of_row _ _ _ _ _ GX7.out
            have y5 : (w7).frozen? ⟨g + 1, 5, none⟩ = false := frozen_of_row _ _ _ _ _ GX7.out
            have r0 := cell_row (j := 0) GR7.out rfl
            have r1 := cell_row (j := 1) GR7.out rfl
            have r2 := cell_row (j := 2) GR7.out rfl
            have r3 := cell_row (j := 3) GR7.out rfl
            have r4 := cell_row (j := 4) GR7.out rfl
            have r5 := cell_row (j := 5) GR7.out rfl
            have z0 : (w7).frozen? ⟨g, 0, none⟩ = false := frozen_of_row _ _ _ _ _ GR7.out
            have z1 : (w7).frozen? ⟨g, 1, none⟩ = false := frozen_of_row _ _ _ _ _ GR7.out
            have z2 : (w7).frozen? ⟨g, 2, none⟩ = false := frozen_of_row _ _ _ _ _ GR7.out
            have z3 : (w7).frozen? ⟨g, 3, none⟩ = false := frozen_of_row _ _ _ _ _ GR7.out
            have z4 : (w7).frozen? ⟨g, 4, none⟩ = false := frozen_of_row _ _ _ _ _ GR7.out
            have z5 : (w7).frozen? ⟨g, 5, none⟩ = false := frozen_of_row _ _ _ _ _ GR7.out
            go_wp2_with fail
            try simp only [Exit.inBlock, Exit.then]
            refine bodyPost_ret (results_cell_tmp rfl _ _ g 34 #[.string lb', .int .u8 19, .int .u8 (z : Int), .int .u16 0, .int .u32 (cv : Int), .string ⟨#[]⟩] (0, 0) _ _ rfl rfl (set6_heap GR7.out rfl _ _ _ _ _ _) Tryz.underlying34 rfl infoA) rfl ?_
            refine ⟨⟨⟨⟨lb', ⟨19, z, 0, cv⟩, ⟨#[]⟩⟩, by first | (rw [HLS]; done) | (rw [HLS]; rfl), fun h => by (rw [HLS] at h ⊢) <;> first | rfl | cases h⟩⟩, ?_⟩
            rw [hgw]
            exact set6_below B7.out (Nat.le_refl g) _ _ _ _ _ _
      · have HLS := HLS.trans (opS_bad (.inr (by rw [hnv]; exact hn1)))
        have t9 : (((nv : Int) + 1) != 2) = true := bne_iff_ne.2 (by omega)
        have r0 := cell_row (j := 0) GR3.out rfl
        have r1 := cell_row (j := 1) GR3.out rfl
        have r2 := cell_row (j := 2) GR3.out rfl
        have r3 := cell_row (j := 3) GR3.out rfl
        have r4 := cell_row (j := 4) GR3.out rfl
        have r5 := cell_row (j := 5) GR3.out rfl
        have z0 : (w3).frozen? ⟨g, 0, none⟩ = false := frozen_of_row _ _ _ _ _ GR3.out
        have z1 : (w3).frozen? ⟨g, 1, none⟩ = false := frozen_of_row _ _ _ _ _ GR3.out
        have z2 : (w3).frozen? ⟨g, 2, none⟩ = false := frozen_of_row _ _ _ _ _ GR3.out
        have z3 : (w3).frozen? ⟨g, 3, none⟩ = false := frozen_of_row _ _ _ _ _ GR3.out
        have z4 : (w3).frozen? ⟨g, 4, none⟩ = false := frozen_of_row _ _ _ _ _ GR3.out
        have z5 : (w3).frozen? ⟨g, 5, none⟩ = false := frozen_of_row _ _ _ _ _ GR3.out
        go_wp2_with fail
        try simp only [Exit.inBlock, Exit.then]
        refine bodyPost_ret (results_cell_tmp rfl _ _ g 34 #[.string lb', .int .u8 (19 : Int), .int .u8 (z : Int), .int .u16 0, .int .u32 0, .string ⟨#[]⟩] (0, 0) _ _ rfl rfl (set6_heap GR3.out rfl _ _ _ _ _ _) Tryz.underlying34 rfl infoA) rfl ?_
        refine ⟨⟨⟨⟨lb', ⟨19, z, 0, 0⟩, ⟨#[]⟩⟩, by first | (rw [HLS]; done) | (rw [HLS]; rfl), fun h => by (rw [HLS] at h ⊢) <;> first | rfl | cases h⟩⟩, ?_⟩
        rw [hgw]
        exact set6_below B3.out (Nat.le_refl g) _ _ _ _ _ _
    · skip
      by_cases hn1 : nv = 1
      · have HLS := HLS.trans (opS_arg (by decide) (by decide) (by rw [hnv]; exact hn1))
        subst hn1
        obtain ⟨v0, hv0⟩ : ∃ v0, v0 = vs.getD 0 eS := ⟨_, rfl⟩
        have HSV : Hid (v0.size ≤ 281474976710656) := by rw [hv0]; exact HSN.out 0 (by omega)
        have u1 : w3.cell? ⟨b', off' + 1, none⟩ = some (.string v0) := by rw [hv0]; exact HCN.out w3 B3.out 0 (by omega)
        rw [← hv0] at HLS
        clear hv0
        go_wp2_with fail
        refine (rjumps_any 20 w3).mono ?_
        rintro e w' ⟨rfl, hw⟩
        obtain rfl : w3 = w' := hw.symm
        rw [show jumpB 20 = true from rfl]
        go_wp2_with fail
        refine (rlabel_any v0 w3 (by have := HSV.out; omega)).mono ?_
        rintro e w' ⟨rfl, hw⟩
        obtain rfl : w3 = w' := hw.symm
        have HLS : lineS ws = if labelB v0 then (0, ⟨lb', ⟨20, z, 0, 0⟩, v0⟩) else (match numL v0.data.toList with | some c => (0, ⟨lb', ⟨20, z, 0, c⟩, eS⟩) | none => (42, al0)) := HLS
        cases hl0 : labelB v0 with
        | true =>
          rw [hl0, if_pos rfl] at HLS
          go_upto_region 24 with fail
          have GX7 : Hid ((w3.setCell ⟨g + 1, 5, none⟩ (.string v0)).heap[g + 1]? = some (.cells #[.string lb', .int .u8 20, .int .u8 (z : Int), .int .u16 0, .int .u32 0, .string v0] 34 (0, 0))) := heap_setCell_same _ _ _ _ _ _ GX3.out
          have GR7 : Hid ((w3.setCell ⟨g + 1, 5, none⟩ (.string v0)).heap[g]? = some (.cells #[.string ⟨#[]⟩, .int .u8 0, .int .u8 0, .int .u16 0, .int .u32 0, .string ⟨#[]⟩] 34 (0, 0))) := (heap_setCell_other _ _ _ _ (Nat.ne_of_lt (Nat.lt_succ_self g))).trans GR3.out
          have B7 : Hid (Below g w (w3.setCell ⟨g + 1, 5, none⟩ (.string v0))) := B3.out.setCell (p := ⟨g + 1, 5, none⟩) (Nat.le_succ g) _
          generalize w3.setCell ⟨g + 1, 5, none⟩ (.string v0) = w7 at *
          clear GX3 GR3 B3 x0 x1 x2 x3 x4 x5 y0 y1 y2 y3 y4 y5
          have x0 := cell_row (j := 0) GX7.out rfl
          have x1 := cell_row (j := 1) GX7.out rfl
          have x2 := cell_row (j := 2) GX7.out rfl
          have x3 := cell_row (j := 3) GX7.out rfl
          have x4 := cell_row (j := 4) GX7.out rfl
          have x5 := cell_row (j := 5) GX7.out rfl
          have y0 : (w7).frozen? ⟨g + 1, 0, none⟩ = false := frozen_of_row _ _ _ _ _ GX7.out
          have y1 : (w7).frozen? ⟨g + 1, 1, none⟩ = false := frozen_of_row _ _ _ _ _ GX7.out
          have y2 : (w7).frozen? ⟨g + 1, 2, none⟩ = false := frozen_of_row _ _ _ _ _ GX7.out
          have y3 : (w7).frozen? ⟨g + 1, 3, none⟩ = false := frozen_of_row _ _ _ _ _ GX7.out
          have y4 : (w7).frozen? ⟨g + 1, 4, none⟩ = false := frozen_of_row _ _ _ _ _ GX7.out
          have y5 : (w7).frozen? ⟨g + 1, 5, none⟩ = false := frozen_of_row _ _ _ _ _ GX7.out
          have r0 := cell_row (j := 0) GR7.out rfl
          have r1 := cell_row (j := 1) GR7.out rfl
          have r2 := cell_row (j := 2) GR7.out rfl
          have r3 := cell_row (j := 3) GR7.out rfl
          have r4 := cell_row (j := 4) GR7.out rfl
          have r5 := cell_row (j := 5) GR7.out rfl
          have z0 : (w7).frozen? ⟨g, 0, none⟩ = false := frozen_of_row _ _ _ _ _ GR7.out
          have z1 : (w7).frozen? ⟨g, 1, none⟩ = false := frozen_of_row _ _ _ _ _ GR7.out
          have z2 : (w7).frozen? ⟨g, 2, none⟩ = false := frozen_of_row _ _ _ _ _ GR7.out
          have z3 : (w7).frozen? ⟨g, 3, none⟩ = false := frozen_of_row _ _ _ _ _ GR7.out
          have z4 : (w7).frozen? ⟨g, 4, none⟩ = false := frozen_of_row _ _ _ _ _ GR7.out
          have z5 : (w7).frozen? ⟨g, 5, none⟩ = false := frozen_of_row _ _ _ _ _ GR7.out
          go_wp2_with fail
          try simp only [Exit.inBlock, Exit.then]
          refine bodyPost_ret (results_cell_tmp rfl _ _ g 34 #[.string lb', .int .u8 20, .int .u8 (z : Int), .int .u16 0, .int .u32 0, .string v0] (0, 0) _ _ rfl rfl (set6_heap GR7.out rfl _ _ _ _ _ _) Tryz.underlying34 rfl infoA) rfl ?_
          refine ⟨⟨⟨⟨lb', ⟨20, z, 0, 0⟩, v0⟩, by first | (rw [HLS]; done) | (rw [HLS]; rfl), fun h => by (rw [HLS] at h ⊢) <;> first | rfl | cases h⟩⟩, ?_⟩
          rw [hgw]
          exact set6_below B7.out (Nat.le_refl g) _ _ _ _ _ _
        | false =>
          rw [hl0, if_neg (by decide)] at HLS
          go_wp2_with fail
          have hV := Lib.hid (rvalue_big v0 w3 HSV.out)
          refine hV.out.mono ?_
          clear hV
          rintro e w' ⟨rfl, hw⟩
          obtain rfl : w3 = w' := hw.symm
          cases hx : numL v0.data.toList with
          | none =>
            rw [hx] at HLS
            rw [valV_none hx]
            have r0 := cell_row (j := 0) GR3.out rfl
            have r1 := cell_row (j := 1) GR3.out rfl
            have r2 := cell_row (j := 2) GR3.out rfl
            have r3 := cell_row (j := 3) GR3.out rfl
            have r4 := cell_row (j := 4) GR3.out rfl
            have r5 := cell_row (j := 5) GR3.out rfl
            have z0 : (w3).frozen? ⟨g, 0, none⟩ = false := frozen_of_row _ _ _ _ _ GR3.out
            have z1 : (w3).frozen? ⟨g, 1, none⟩ = false := frozen_of_row _ _ _ _ _ GR3.out
            have z2 : (w3).frozen? ⟨g, 2, none⟩ = false := frozen_of_row _ _ _ _ _ GR3.out
            have z3 : (w3).frozen? ⟨g, 3, none⟩ = false := frozen_of_row _ _ _ _ _ GR3.out
            have z4 : (w3).frozen? ⟨g, 4, none⟩ = false := frozen_of_row _ _ _ _ _ GR3.out
            have z5 : (w3).frozen? ⟨g, 5, none⟩ = false := frozen_of_row _ _ _ _ _ GR3.out
            go_wp2_with fail
            try simp only [Exit.inBlock, Exit.then]
            refine bodyPost_ret (results_cell_tmp rfl _ _ g 34 #[.string lb', .int .u8 20, .int .u8 (z : Int), .int .u16 0, .int .u32 0, .string ⟨#[]⟩] (0, 0) _ _ rfl rfl (set6_heap GR3.out rfl _ _ _ _ _ _) Tryz.underlying34 rfl infoA) rfl ?_
            refine ⟨⟨⟨⟨lb', ⟨20, z, 0, 0⟩, ⟨#[]⟩⟩, by first | (rw [HLS]; done) | (rw [HLS]; rfl), fun h => by (rw [HLS] at h ⊢) <;> first | rfl | cases h⟩⟩, ?_⟩
            rw [hgw]
            exact set6_below B3.out (Nat.le_refl g) _ _ _ _ _ _
          | some cv =>
            have hcv : cv < 4294967296 := by have := numL_le hx; omega
            rw [hx] at HLS
            rw [valV_ok hx (by omega)]
            have t7 : decide ((cv : Int) < 0) = false := decide_eq_false (by omega)
            go_upto_region 30 with fail
            have GX7 : Hid ((w3.setCell ⟨g + 1, 4, none⟩ (.int .u32 (cv : Int))).heap[g + 1]? = some (.cells #[.string lb', .int .u8 20, .int .u8 (z : Int), .int .u16 0, .int .u32 (cv : Int), .string ⟨#[]⟩] 34 (0, 0))) := heap_setCell_same _ _ _ _ _ _ GX3.out
            have GR7 : Hid ((w3.setCell ⟨g + 1, 4, none⟩ (.int .u32 (cv : Int))).heap[g]? = some (.cells #[.string ⟨#[]⟩, .int .u8 0, .int .u8 0, .int .u16 0, .int .u32 0, .string ⟨#[]⟩] 34 (0, 0))) := (heap_setCell_other _ _ _ _ (Nat.ne_of_lt (Nat.lt_succ_self g))).trans GR3.out
            have B7 : Hid (Below g w (w3.setCell ⟨g + 1, 4, none⟩ (.int .u32 (cv : Int)))) := B3.out.setCell (p := ⟨g + 1, 4, none⟩) (Nat.le_succ g) _
            generalize w3.setCell ⟨g + 1, 4, none⟩ (.int .u32 (cv : Int)) = w7 at *
            clear GX3 GR3 B3 x0 x1 x2 x3 x4 x5 y0 y1 y2 y3 y4 y5
            have x0 := cell_row (j := 0) GX7.out rfl
            have x1 := cell_row (j := 1) GX7.out rfl
            have x2 := cell_row (j := 2) GX7.out rfl
            have x3 := cell_row (j := 3) GX7.out rfl
            have x4 := cell_row (j := 4) GX7.out rfl
            have x5 := cell_row (j := 5) GX7.out rfl
            have y0 : (w7).frozen? ⟨g + 1, 0, none⟩ = false := frozen_of_row _ _ _ _ _ GX7.out
            have y1 : (w7).frozen? ⟨g + 1, 1, none⟩ = false := frozen_of_row _ _ _ _ _ GX7.out
            have y2 : (w7).frozen? ⟨g + 1, 2, none⟩ = false := frozen_of_row _ _ _ _ _ GX7.out
            have y3 : (w7).frozen? ⟨g + 1, 3, none⟩ = false := frozen_of_row _ _ _ _ _ GX7.out
            have y4 : (w7).frozen? ⟨g + 1, 4, none⟩ = false := frozen_of_row _ _ _ _ _ GX7.out
            have y5 : (w7).frozen? ⟨g + 1, 5, none⟩ = false := frozen_of_row _ _ _ _ _ GX7.out
            have r0 := cell_row (j := 0) GR7.out rfl
            have r1 := cell_row (j := 1) GR7.out rfl
            have r2 := cell_row (j := 2) GR7.out rfl
            have r3 := cell_row (j := 3) GR7.out rfl
            have r4 := cell_row (j := 4) GR7.out rfl
            have r5 := cell_row (j := 5) GR7.out rfl
            have z0 : (w7).frozen? ⟨g, 0, none⟩ = false := frozen_of_row _ _ _ _ _ GR7.out
            have z1 : (w7).frozen? ⟨g, 1, none⟩ = false := frozen_of_row _ _ _ _ _ GR7.out
            have z2 : (w7).frozen? ⟨g, 2, none⟩ = false := frozen_of_row _ _ _ _ _ GR7.out
            have z3 : (w7).frozen? ⟨g, 3, none⟩ = false := frozen_of_row _ _ _ _ _ GR7.out
            have z4 : (w7).frozen? ⟨g, 4, none⟩ = false := frozen_of_row _ _ _ _ _ GR7.out
            have z5 : (w7).frozen? ⟨g, 5, none⟩ = false := frozen_of_row _ _ _ _ _ GR7.out
            go_wp2_with fail
            try simp only [Exit.inBlock, Exit.then]
            refine bodyPost_ret (results_cell_tmp rfl _ _ g 34 #[.string lb', .int .u8 20, .int .u8 (z : Int), .int .u16 0, .int .u32 (cv : Int), .string ⟨#[]⟩] (0, 0) _ _ rfl rfl (set6_heap GR7.out rfl _ _ _ _ _ _) Tryz.underlying34 rfl infoA) rfl ?_
            refine ⟨⟨⟨⟨lb', ⟨20, z, 0, cv⟩, ⟨#[]⟩⟩, by first | (rw [HLS]; done) | (rw [HLS]; rfl), fun h => by (rw [HLS] at h ⊢) <;> first | rfl | cases h⟩⟩, ?_⟩
            rw [hgw]
            exact set6_below B7.out (Nat.le_refl g) _ _ _ _ _ _
      · have HLS := HLS.trans (opS_bad (.inr (by rw [hnv]; exact hn1)))
        have t9 : (((nv : Int) + 1) != 2) = true := bne_iff_ne.2 (by omega)
        have r0 := cell_row (j := 0) GR3.out rfl
        have r1 := cell_row (j := 1) GR3.out rfl
        have r2 := cell_row (j := 2) GR3.out rfl
        have r3 := cell_row (j := 3) GR3.out rfl
        have r4 := cell_row (j := 4) GR3.out rfl
        have r5 := cell_row (j := 5) GR3.out rfl
        have z0 : (w3).frozen? ⟨g, 0, none⟩ = false := frozen_of_row _ _ _ _ _ GR3.out
        have z1 : (w3).frozen? ⟨g, 1, none⟩ = false := frozen_of_row _ _ _ _ _ GR3.out
        have z2 : (w3).frozen? ⟨g, 2, none⟩ = false := frozen_of_row _ _ _ _ _ GR3.out
        have z3 : (w3).frozen? ⟨g, 3, none⟩ = false := frozen_of_row _ _ _ _ _ GR3.out
        have z4 : (w3).frozen? ⟨g, 4, none⟩ = false := frozen_of_row _ _ _ _ _ GR3.out
        have z5 : (w3).frozen? ⟨g, 5, none⟩ = false := frozen_of_row _ _ _ _ _ GR3.out
        go_wp2_with fail
        try simp only [Exit.inBlock, Exit.then]
        refine bodyPost_ret (results_cell_tmp rfl _ _ g 34 #[.string lb', .int .u8 (20 : Int), .int .u8 (z : Int), .int .u16 0, .int .u32 0, .string ⟨#[]⟩] (0, 0) _ _ rfl rfl (set6_heap GR3.out rfl _ _ _ _ _ _) Tryz.underlying34 rfl infoA) rfl ?_
        refine ⟨⟨⟨⟨lb', ⟨20, z, 0, 0⟩, ⟨#[]⟩⟩, by first | (rw [HLS]; done) | (rw [HLS]; rfl), fun h => by (rw [HLS] at h ⊢) <;> first | rfl | cases h⟩⟩, ?_⟩
        rw [hgw]
        exact set6_below B3.out (Nat.le_refl g) _ _ _ _ _ _
    · skip
      by_cases hn1 : nv = 1
      · have HLS := HLS.trans (opS_arg (by decide) (by decide) (by rw [hnv]; exact hn1))
        subst hn1
        obtain ⟨v0, hv0⟩ : ∃ v0, v0 = vs.getD 0 eS := ⟨_, rfl⟩
        have HSV : Hid (v0.size ≤ 281474976710656) := by rw [hv0]; exact HSN.out 0 (by omega)
        have u1 : w3.cell? ⟨b', off' + 1, none⟩ = some (.string v0) := by rw [hv0]; exact HCN.out w3 B3.out 0 (by omega)
        rw [← hv0] at HLS
        clear hv0
        go_wp2_with fail
        refine (rjumps_any 21 w3).mono ?_
        rintro e w' ⟨rfl, hw⟩
        obtain rfl : w3 = w' := hw.symm
        rw [show jumpB 21 = false from rfl]
        have HLS : lineS ws = (match numL v0.data.toList with | none => (42, al0) | some a => if 15 < a then (42, al0) else (0, ⟨lb', ⟨21, a, 0, 0⟩, eS⟩)) := HLS
        go_wp2_with fail
        have hV := Lib.hid (rvalue_15 v0 w3 HSV.out)
        refine hV.out.mono ?_
        clear hV
        rintro e w' ⟨rfl, hw⟩
        obtain rfl : w3 = w' := hw.symm
        cases hx : numL v0.data.toList with
        | none =>
          rw [hx] at HLS
          rw [valV_none hx]
          have r0 := cell_row (j := 0) GR3.out rfl
          have r1 := cell_row (j := 1) GR3.out rfl
          have r2 := cell_row (j := 2) GR3.out rfl
          have r3 := cell_row (j := 3) GR3.out rfl
          have r4 := cell_row (j := 4) GR3.out rfl
          have r5 := cell_row (j := 5) GR3.out rfl
          have z0 : (w3).frozen? ⟨g, 0, none⟩ = false := frozen_of_row _ _ _ _ _ GR3.out
          have z1 : (w3).frozen? ⟨g, 1, none⟩ = false := frozen_of_row _ _ _ _ _ GR3.out
          have z2 : (w3).frozen? ⟨g, 2, none⟩ = false := frozen_of_row _ _ _ _ _ GR3.out
          have z3 : (w3).frozen? ⟨g, 3, none⟩ = false := frozen_of_row _ _ _ _ _ GR3.out
          have z4 : (w3).frozen? ⟨g, 4, none⟩ = false := frozen_of_row _ _ _ _ _ GR3.out
          have z5 : (w3).frozen? ⟨g, 5, none⟩ = false := frozen_of_row _ _ _ _ _ GR3.out
          go_wp2_with fail
          try simp only [Exit.inBlock, Exit.then]
          refine bodyPost_ret (results_cell_tmp rfl _ _ g 34 #[.string lb', .int .u8 21, .int .u8 (z : Int), .int .u16 0, .int .u32 0, .string ⟨#[]⟩] (0, 0) _ _ rfl rfl (set6_heap GR3.out rfl _ _ _ _ _ _) Tryz.underlying34 rfl infoA) rfl ?_
          refine ⟨⟨⟨⟨lb', ⟨21, z, 0, 0⟩, ⟨#[]⟩⟩, by first | (rw [HLS]; done) | (rw [HLS]; rfl), fun h => by (rw [HLS] at h ⊢) <;> first | rfl | cases h⟩⟩, ?_⟩
          rw [hgw]
          exact set6_below B3.out (Nat.le_refl g) _ _ _ _ _ _
        | some av =>
          rw [hx] at HLS
          by_cases h15 : 15 < av
          · have HLS : lineS ws = (42, al0) := HLS.trans (if_pos h15)
            rw [valV_big hx h15]
            have r0 := cell_row (j := 0) GR3.out rfl
            have r1 := cell_row (j := 1) GR3.out rfl
            have r2 := cell_row (j := 2) GR3.out rfl
            have r3 := cell_row (j := 3) GR3.out rfl
            have r4 := cell_row (j := 4) GR3.out rfl
            have r5 := cell_row (j := 5) GR3.out rfl
            have z0 : (w3).frozen? ⟨g, 0, none⟩ = false := frozen_of_row _ _ _ _ _ GR3.out
            have z1 : (w3).frozen? ⟨g, 1, none⟩ = false := frozen_of_row _ _ _ _ _ GR3.out
            have z2 : (w3).frozen? ⟨g, 2, none⟩ = false := frozen_of_row _ _ _ _ _ GR3.out
            have z3 : (w3).frozen? ⟨g, 3, none⟩ = false := frozen_of_row _ _ _ _ _ GR3.out
            have z4 : (w3).frozen? ⟨g, 4, none⟩ = false := frozen_of_row _ _ _ _ _ GR3.out
            have z5 : (w3).frozen? ⟨g, 5, none⟩ = false := frozen_of_row _ _ _ _ _ GR3.out
            go_wp2_with fail
            try simp only [Exit.inBlock, Exit.then]
            refine bodyPost_ret (results_cell_tmp rfl _ _ g 34 #[.string lb', .int .u8 21, .int .u8 (z : Int), .int .u16 0, .int .u32 0, .string ⟨#[]⟩] (0, 0) _ _ rfl rfl (set6_heap GR3.out rfl _ _ _ _ _ _) Tryz.underlying34 rfl infoA) rfl ?_
            refine ⟨⟨⟨⟨lb', ⟨21, z, 0, 0⟩, ⟨#[]⟩⟩, by first | (rw [HLS]; done) | (rw [HLS]; rfl), fun h => by (rw [HLS] at h ⊢) <;> first | rfl | cases h⟩⟩, ?_⟩
            rw [hgw]
            exact set6_below B3.out (Nat.le_refl g) _ _ _ _ _ _
          · have HLS : lineS ws = (0, ⟨lb', ⟨21, av, 0, 0⟩, eS⟩) := HLS.trans (if_neg h15)
            rw [valV_ok hx (by omega)]
            have t7 : decide ((av : Int) < 0) = false := decide_eq_false (by omega)
            have h256 : av < 256 := by omega
            go_upto_region 38 with fail
            have GX7 : Hid ((w3.setCell ⟨g + 1, 2, none⟩ (.int .u8 (av : Int))).heap[g + 1]? = some (.cells #[.string lb', .int .u8 21, .int .u8 (av : Int), .int .u16 0, .int .u32 0, .string ⟨#[]⟩] 34 (0, 0))) := heap_setCell_same _ _ _ _ _ _ GX3.out
            have GR7 : Hid ((w3.setCell ⟨g + 1, 2, none⟩ (.int .u8 (av : Int))).heap[g]? = some (.cells #[.string ⟨#[]⟩, .int .u8 0, .int .u8 0, .int .u16 0, .int .u32 0, .string ⟨#[]⟩] 34 (0, 0))) := (heap_setCell_other _ _ _ _ (Nat.ne_of_lt (Nat.lt_succ_self g))).trans GR3.out
            have B7 : Hid (Below g w (w3.setCell ⟨g + 1, 2, none⟩ (.int .u8 (av : Int)))) := B3.out.setCell (p := ⟨g + 1, 2, none⟩) (Nat.le_succ g) _
            generalize w3.setCell ⟨g + 1, 2, none⟩ (.int .u8 (av : Int)) = w7 at *
            clear GX3 GR3 B3 x0 x1 x2 x3 x4 x5 y0 y1 y2 y3 y4 y5
            have x0 := cell_row (j := 0) GX7.out rfl
            have x1 := cell_row (j := 1) GX7.out rfl
            have x2 := cell_row (j := 2) GX7.out rfl
            have x3 := cell_row (j := 3) GX7.out rfl
            have x4 := cell_row (j := 4) GX7.out rfl
            have x5 := cell_row (j := 5) GX7.out rfl
            have y0 : (w7).frozen? ⟨g + 1, 0, none⟩ = false := frozen_of_row _ _ _ _ _ GX7.out
            have y1 : (w7).frozen? ⟨g + 1, 1, none⟩ = false := frozen_of_row _ _ _ _ _ GX7.out
            have y2 : (w7).frozen? ⟨g + 1, 2, none⟩ = false := frozen_of_row _ _ _ _ _ GX7.out
            have y3 : (w7).frozen? ⟨g + 1, 3, none⟩ = false := frozen_of_row _ _ _ _ _ GX7.out
            have y4 : (w7).frozen? ⟨g + 1, 4, none⟩ = false := frozen_of_row _ _ _ _ _ GX7.out
            have y5 : (w7).frozen? ⟨g + 1, 5, none⟩ = false := frozen_of_row _ _ _ _ _ GX7.out
            go_upto_region 39 with fail
            have GX8 : Hid ((w7.setCell ⟨g + 1, 3, none⟩ (.int .u16 0)).heap[g + 1]? = some (.cells #[.string lb', .int .u8 21, .int .u8 (av : Int), .int .u16 0, .int .u32 0, .string ⟨#[]⟩] 34 (0, 0))) := heap_setCell_same _ _ _ _ _ _ GX7.out
            have GR8 : Hid ((w7.setCell ⟨g + 1, 3, none⟩ (.int .u16 0)).heap[g]? = some (.cells #[.string ⟨#[]⟩, .int .u8 0, .int .u8 0, .int .u16 0, .int .u32 0, .string ⟨#[]⟩] 34 (0, 0))) := (heap_setCell_other _ _ _ _ (Nat.ne_of_lt (Nat.lt_succ_self g))).trans GR7.out
            have B8 : Hid (Below g w (w7.setCell ⟨g + 1, 3, none⟩ (.int .u16 0))) := B7.out.setCell (p := ⟨g + 1, 3, none⟩) (Nat.le_succ g) _
            generalize w7.setCell ⟨g + 1, 3, none⟩ (.int .u16 0) = w8 at *
            clear GX7 GR7 B7 x0 x1 x2 x3 x4 x5 y0 y1 y2 y3 y4 y5
            have x0 := cell_row (j := 0) GX8.out rfl
            have x1 := cell_row (j := 1) GX8.out rfl
            have x2 := cell_row (j := 2) GX8.out rfl
            have x3 := cell_row (j := 3) GX8.out rfl
            have x4 := cell_row (j := 4) GX8.out rfl
            have x5 := cell_row (j := 5) GX8.out rfl
            have y0 : (w8).frozen? ⟨g + 1, 0, none⟩ = false := frozen_of_row _ _ _ _ _ GX8.out
            have y1 : (w8).frozen? ⟨g + 1, 1, none⟩ = false := frozen_of_row _ _ _ _ _ GX8.out
            have y2 : (w8).frozen? ⟨g + 1, 2, none⟩ = false := frozen_of_row _ _ _ _ _ GX8.out
            have y3 : (w8).frozen? ⟨g + 1, 3, none⟩ = false := frozen_of_row _ _ _ _ _ GX8.out
            have y4 : (w8).frozen? ⟨g + 1, 4, none⟩ = false := frozen_of_row _ _ _ _ _ GX8.out
            have y5 : (w8).frozen? ⟨g + 1, 5, none⟩ = false := frozen_of_row _ _ _ _ _ GX8.out
            have r0 := cell_row (j := 0) GR8.out rfl
            have r1 := cell_row (j := 1) GR8.out rfl
            have r2 := cell_row (j := 2) GR8.out rfl
            have r3 := cell_row (j := 3) GR8.out rfl
            have r4 := cell_row (j := 4) GR8.out rfl
            have r5 := cell_row (j := 5) GR8.out rfl
            have z0 : (w8).frozen? ⟨g, 0, none⟩ = false := frozen_of_row _ _ _ _ _ GR8.out
            have z1 : (w8).frozen? ⟨g, 1, none⟩ = false := frozen_of_row _ _ _ _ _ GR8.out
            have z2 : (w8).frozen? ⟨g, 2, none⟩ = false := frozen_of_row _ _ _ _ _ GR8.out
            have z3 : (w8).frozen? ⟨g, 3, none⟩ = false := frozen_of_row _ _ _ _ _ GR8.out
            have z4 : (w8).frozen? ⟨g, 4, none⟩ = false := frozen_of_row _ _ _ _ _ GR8.out
            have z5 : (w8).frozen? ⟨g, 5, none⟩ = false := frozen_of_row _ _ _ _ _ GR8.out
            go_wp2_with fail
            try simp only [Exit.inBlock, Exit.then]
            refine bodyPost_ret (results_cell_tmp rfl _ _ g 34 #[.string lb', .int .u8 21, .int .u8 (av : Int), .int .u16 0, .int .u32 0, .string ⟨#[]⟩] (0, 0) _ _ rfl rfl (set6_heap GR8.out rfl _ _ _ _ _ _) Tryz.underlying34 rfl infoA) rfl ?_
            refine ⟨⟨⟨⟨lb', ⟨21, av, 0, 0⟩, ⟨#[]⟩⟩, by first | (rw [HLS]; done) | (rw [HLS]; rfl), fun h => by (rw [HLS] at h ⊢) <;> first | rfl | cases h⟩⟩, ?_⟩
            rw [hgw]
            exact set6_below B8.out (Nat.le_refl g) _ _ _ _ _ _
      · have HLS := HLS.trans (opS_bad (.inr (by rw [hnv]; exact hn1)))
        have t9 : (((nv : Int) + 1) != 2) = true := bne_iff_ne.2 (by omega)
        have r0 := cell_row (j := 0) GR3.out rfl
        have r1 := cell_row (j := 1) GR3.out rfl
        have r2 := cell_row (j := 2) GR3.out rfl
        have r3 := cell_row (j := 3) GR3.out rfl
        have r4 := cell_row (j := 4) GR3.out rfl
        have r5 := cell_row (j := 5) GR3.out rfl
        have z0 : (w3).frozen? ⟨g, 0, none⟩ = false := frozen_of_row _ _ _ _ _ GR3.out
        have z1 : (w3).frozen? ⟨g, 1, none⟩ = false := frozen_of_row _ _ _ _ _ GR3.out
        have z2 : (w3).frozen? ⟨g, 2, none⟩ = false := frozen_of_row _ _ _ _ _ GR3.out
        have z3 : (w3).frozen? ⟨g, 3, none⟩ = false := frozen_of_row _ _ _ _ _ GR3.out
        have z4 : (w3).frozen? ⟨g, 4, none⟩ = false := frozen_of_row _ _ _ _ _ GR3.out
        have z5 : (w3).frozen? ⟨g, 5, none⟩ = false := frozen_of_row _ _ _ _ _ GR3.out
        go_wp2_with fail
        try simp only [Exit.inBlock, Exit.then]
        refine bodyPost_ret (results_cell_tmp rfl _ _ g 34 #[.string lb', .int .u8 (21 : Int), .int .u8 (z : Int), .int .u16 0, .int .u32 0, .string ⟨#[]⟩] (0, 0) _ _ rfl rfl (set6_heap GR3.out rfl _ _ _ _ _ _) Tryz.underlying34 rfl infoA) rfl ?_
        refine ⟨⟨⟨⟨lb', ⟨21, z, 0, 0⟩, ⟨#[]⟩⟩, by first | (rw [HLS]; done) | (rw [HLS]; rfl), fun h => by (rw [HLS] at h ⊢) <;> first | rfl | cases h⟩⟩, ?_⟩
        rw [hgw]
        exact set6_below B3.out (Nat.le_refl g) _ _ _ _ _ _
    · skip
      by_cases hn1 : nv = 1
      · have HLS := HLS.trans (opS_arg (by decide) (by decide) (by rw [hnv]; exact hn1))
        subst hn1
        obtain ⟨v0, hv0⟩ : ∃ v0, v0 = vs.getD 0 eS := ⟨_, rfl⟩
        have HSV : Hid (v0.size ≤ 281474976710656) := by rw [hv0]; exact HSN.out 0 (by omega)
        have u1 : w3.cell? ⟨b', off' + 1, none⟩ = some (.string v0) := by rw [hv0]; exact HCN.out w3 B3.out 0 (by omega)
        rw [← hv0] at HLS
        clear hv0
        go_wp2_with fail
        refine (rjumps_any 22 w3).mono ?_
        rintro e w' ⟨rfl, hw⟩
        obtain rfl : w3 = w' := hw.symm
        rw [show jumpB 22 = false from rfl]
        have HLS : lineS ws = (match numL v0.data.toList with | none => (42, al0) | some a => if 15 < a then (42, al0) else (0, ⟨lb', ⟨22, a, 0, 0⟩, eS⟩)) := HLS
        go_wp2_with fail
        have hV := Lib.hid (rvalue_15 v0 w3 HSV.out)
        refine hV.out.mono ?_
        clear hV
        rintro e w' ⟨rfl, hw⟩
        obtain rfl : w3 = w' := hw.symm
        cases hx : numL v0.data.toList with
        | none =>
          rw [hx] at HLS
          rw [valV_none hx]
          have r0 := cell_row (j := 0) GR3.out rfl
          have r1 := cell_row (j := 1) GR3.out rfl
          have r2 := cell_row (j := 2) GR3.out rfl
          have r3 := cell_row (j := 3) GR3.out rfl
          have r4 := cell_row (j := 4) GR3.out rfl
          have r5 := cell_row (j := 5) GR3.out rfl
          have z0 : (w3).frozen? ⟨g, 0, none⟩ = false := frozen_of_row _ _ _ _ _ GR3.out
          have z1 : (w3).frozen? ⟨g, 1, none⟩ = false := frozen_of_row _ _ _ _ _ GR3.out
          have z2 : (w3).frozen? ⟨g, 2, none⟩ = false := frozen_of_row _ _ _ _ _ GR3.out
          have z3 : (w3).frozen? ⟨g, 3, none⟩ = false := frozen_of_row _ _ _ _ _ GR3.out
          have z4 : (w3).frozen? ⟨g, 4, none⟩ = false := frozen_of_row _ _ _ _ _ GR3.out
          have z5 : (w3).frozen? ⟨g, 5, none⟩ = false := frozen_of_row _ _ _ _ _ GR3.out
          go_wp2_with fail
          try simp only [Exit.inBlock, Exit.then]
          refine bodyPost_ret (results_cell_tmp rfl _ _ g 34 #[.string lb', .int .u8 22, .int .u8 (z : Int), .int .u16 0, .int .u32 0, .string ⟨#[]⟩] (0, 0) _ _ rfl rfl (set6_heap GR3.out rfl _ _ _ _ _ _) Tryz.underlying34 rfl infoA) rfl ?_
          refine ⟨⟨⟨⟨lb', ⟨22, z, 0, 0⟩, ⟨#[]⟩⟩, by first | (rw [HLS]; done) | (rw [HLS]; rfl), fun h => by (rw [HLS] at h ⊢) <;> first | rfl | cases h⟩⟩, ?_⟩
          rw [hgw]
          exact set6_below B3.out (Nat.le_refl g) _ _ _ _ _ _
        | some av =>
          rw [hx] at HLS
          by_cases h15 : 15 < av
          · have HLS : lineS ws = (42, al0) := HLS.trans (if_pos h15)
            rw [valV_big hx h15]
            have r0 := cell_row (j := 0) GR3.out rfl
            have r1 := cell_row (j := 1) GR3.out rfl
            have r2 := cell_row (j := 2) GR3.out rfl
            have r3 := cell_row (j := 3) GR3.out rfl
            have r4 := cell_row (j := 4) GR3.out rfl
            have r5 := cell_row (j := 5) GR3.out rfl
            have z0 : (w3).frozen? ⟨g, 0, none⟩ = false := frozen_of_row _ _ _ _ _ GR3.out
            have z1 : (w3).frozen? ⟨g, 1, none⟩ = false := frozen_of_row _ _ _ _ _ GR3.out
            have z2 : (w3).frozen? ⟨g, 2, none⟩ = false := frozen_of_row _ _ _ _ _ GR3.out
            have z3 : (w3).frozen? ⟨g, 3, none⟩ = false := frozen_of_row _ _ _ _ _ GR3.out
            have z4 : (w3).frozen? ⟨g, 4, none⟩ = false := frozen_of_row _ _ _ _ _ GR3.out
            have z5 : (w3).frozen? ⟨g, 5, none⟩ = false := frozen_of_row _ _ _ _ _ GR3.out
            go_wp2_with fail
            try simp only [Exit.inBlock, Exit.then]
            refine bodyPost_ret (results_cell_tmp rfl _ _ g 34 #[.string lb', .int .u8 22, .int .u8 (z : Int), .int .u16 0, .int .u32 0, .string ⟨#[]⟩] (0, 0) _ _ rfl rfl (set6_heap GR3.out rfl _ _ _ _ _ _) Tryz.underlying34 rfl infoA) rfl ?_
            refine ⟨⟨⟨⟨lb', ⟨22, z, 0, 0⟩, ⟨#[]⟩⟩, by first | (rw [HLS]; done) | (rw [HLS]; rfl), fun h => by (rw [HLS] at h ⊢) <;> first | rfl | cases h⟩⟩, ?_⟩
            rw [hgw]
            exact set6_below B3.out (Nat.le_refl g) _ _ _ _ _ _
          · have HLS : lineS ws = (0, ⟨lb', ⟨22, av, 0, 0⟩, eS⟩) := HLS.trans (if_neg h15)
            rw [valV_ok hx (by omega)]
            have t7 : decide ((av : Int) < 0) = false := decide_eq_false (by omega)
            have h256 : av < 256 := by omega
            go_upto_region 38 with fail
            have GX7 : Hid ((w3.setCell ⟨g + 1, 2, none⟩ (.int .u8 (av : Int))).heap[g + 1]? = some (.cells #[.string lb', .int .u8 22, .int .u8 (av : Int), .int .u16 0, .int .u32 0, .string ⟨#[]⟩] 34 (0, 0))) := heap_setCell_same _ _ _ _ _ _ GX3.out
            have GR7 : Hid ((w3.setCell ⟨g + 1, 2, none⟩ (.int .u8 (av : Int))).heap[g]? = some (.cells #[.string ⟨#[]⟩, .int .u8 0, .int .u8 0, .int .u16 0, .int .u32 0, .string ⟨#[]⟩] 34 (0, 0))) := (heap_setCell_other _ _ _ _ (Nat.ne_of_lt (Nat.lt_succ_self g))).trans GR3.out
            have B7 : Hid (Below g w (w3.setCell ⟨g + 1, 2, none⟩ (.int .u8 (av : Int)))) := B3.out.setCell (p := ⟨g + 1, 2, none⟩) (Nat.le_succ g) _
            generalize w3.setCell ⟨g + 1, 2, none⟩ (.int .u8 (av : Int)) = w7 at *
            clear GX3 GR3 B3 x0 x1 x2 x3 x4 x5 y0 y1 y2 y3 y4 y5
            have x0 := cell_row (j := 0) GX7.out rfl
            have x1 := cell_row (j := 1) GX7.out rfl
            have x2 := cell_row (j := 2) GX7.out rfl
            have x3 := cell_row (j := 3) GX7.out rfl
            have x4 := cell_row (j := 4) GX7.out rfl
            have x5 := cell_row (j := 5) GX7.out rfl
            have y0 : (w7).frozen? ⟨g + 1, 0, none⟩ = false := frozen_of_row _ _ _ _ _ GX7.out
            have y1 : (w7).frozen? ⟨g + 1, 1, none⟩ = false := frozen_of_row _ _ _ _ _ GX7.out
            have y2 : (w7).frozen? ⟨g + 1, 2, none⟩ = false := frozen_of_row _ _ _ _ _ GX7.out
            have y3 : (w7).frozen? ⟨g + 1, 3, none⟩ = false := frozen_of_row _ _ _ _ _ GX7.out
            have y4 : (w7).frozen? ⟨g + 1, 4, none⟩ = false := frozen_of_row _ _ _ _ _ GX7.out
            have y5 : (w7).frozen? ⟨g + 1, 5, none⟩ = false := frozen_of_row _ _ _ _ _ GX7.out
            go_upto_region 39 with fail
            have GX8 : Hid ((w7.setCell ⟨g + 1, 3, none⟩ (.int .u16 0)).heap[g + 1]? = some (.cells #[.string lb', .int .u8 22, .int .u8 (av : Int), .int .u16 0, .int .u32 0, .string ⟨#[]⟩] 34 (0, 0))) := heap_setCell_same _ _ _ _ _ _ GX7.out
            have GR8 : Hid ((w7.setCell ⟨g + 1, 3, none⟩ (.int .u16 0)).heap[g]? = some (.cells #[.string ⟨#[]⟩, .int .u8 0, .int .u8 0, .int .u16 0, .int .u32 0, .string ⟨#[]⟩] 34 (0, 0))) := (heap_setCell_other _ _ _ _ (Nat.ne_of_lt (Nat.lt_succ_self g))).trans GR7.out
            have B8 : Hid (Below g w (w7.setCell ⟨g + 1, 3, none⟩ (.int .u16 0))) := B7.out.setCell (p := ⟨g + 1, 3, none⟩) (Nat.le_succ g) _
            generalize w7.setCell ⟨g + 1, 3, none⟩ (.int .u16 0) = w8 at *
            clear GX7 GR7 B7 x0 x1 x2 x3 x4 x5 y0 y1 y2 y3 y4 y5
            have x0 := cell_row (j := 0) GX8.out rfl
            have x1 := cell_row (j := 1) GX8.out rfl
            have x2 := cell_row (j := 2) GX8.out rfl
            have x3 := cell_row (j := 3) GX8.out rfl
            have x4 := cell_row (j := 4) GX8.out rfl
            have x5 := cell_row (j := 5) GX8.out rfl
            have y0 : (w8).frozen? ⟨g + 1, 0, none⟩ = false := frozen_of_row _ _ _ _ _ GX8.out
            have y1 : (w8).frozen? ⟨g + 1, 1, none⟩ = false := frozen_of_row _ _ _ _ _ GX8.out
            have y2 : (w8).frozen? ⟨g + 1, 2, none⟩ = false := frozen_of_row _ _ _ _ _ GX8.out
            have y3 : (w8).frozen? ⟨g + 1, 3, none⟩ = false := frozen_of_row _ _ _ _ _ GX8.out
            have y4 : (w8).frozen? ⟨g + 1, 4, none⟩ = false := frozen_of_row _ _ _ _ _ GX8.out
            have y5 : (w8).frozen? ⟨g + 1, 5, none⟩ = false := frozen_of_row _ _ _ _ _ GX8.out
            have r0 := cell_row (j := 0) GR8.out rfl
            have r1 := cell_row (j := 1) GR8.out rfl
            have r2 := cell_row (j := 2) GR8.out rfl
            have r3 := cell_row (j := 3) GR8.out rfl
            have r4 := cell_row (j := 4) GR8.out rfl
            have r5 := cell_row (j := 5) GR8.out rfl
            have z0 : (w8).frozen? ⟨g, 0, none⟩ = false := frozen_of_row _ _ _ _ _ GR8.out
            have z1 : (w8).frozen? ⟨g, 1, none⟩ = false := frozen_of_row _ _ _ _ _ GR8.out
            have z2 : (w8).frozen? ⟨g, 2, none⟩ = false := frozen_of_row _ _ _ _ _ GR8.out
            have z3 : (w8).frozen? ⟨g, 3, none⟩ = false := frozen_of_row _ _ _ _ _ GR8.out
            have z4 : (w8).frozen? ⟨g, 4, none⟩ = false := frozen_of_row _ _ _ _ _ GR8.out
            have z5 : (w8).frozen? ⟨g, 5, none⟩ = false := frozen_of_row _ _ _ _ _ GR8.out
            go_wp2_with fail
            try simp only [Exit.inBlock, Exit.then]
            refine bodyPost_ret (results_cell_tmp rfl _ _ g 34 #[.string lb', .int .u8 22, .int .u8 (av : Int), .int .u16 0, .int .u32 0, .string ⟨#[]⟩] (0, 0) _ _ rfl rfl (set6_heap GR8.out rfl _ _ _ _ _ _) Tryz.underlying34 rfl infoA) rfl ?_
            refine ⟨⟨⟨⟨lb', ⟨22, av, 0, 0⟩, ⟨#[]⟩⟩, by first | (rw [HLS]; done) | (rw [HLS]; rfl), fun h => by (rw [HLS] at h ⊢) <;> first | rfl | cases h⟩⟩, ?_⟩
            rw [hgw]
            exact set6_below B8.out (Nat.le_refl g) _ _ _ _ _ _
      · have HLS := HLS.trans (opS_bad (.inr (by rw [hnv]; exact hn1)))
        have t9 : (((nv : Int) + 1) != 2) = true := bne_iff_ne.2 (by omega)
        have r0 := cell_row (j := 0) GR3.out rfl
        have r1 := cell_row (j := 1) GR3.out rfl
        have r2 := cell_row (j := 2) GR3.out rfl
        have r3 := cell_row (j := 3) GR3.out rfl
        have r4 := cell_row (j := 4) GR3.out rfl
        have r5 := cell_row (j := 5) GR3.out rfl
        have z0 : (w3).frozen? ⟨g, 0, none⟩ = false := frozen_of_row _ _ _ _ _ GR3.out
        have z1 : (w3).frozen? ⟨g, 1, none⟩ = false := frozen_of_row _ _ _ _ _ GR3.out
        have z2 : (w3).frozen? ⟨g, 2, none⟩ = false := frozen_of_row _ _ _ _ _ GR3.out
        have z3 : (w3).frozen? ⟨g, 3, none⟩ = false := frozen_of_row _ _ _ _ _ GR3.out
        have z4 : (w3).frozen? ⟨g, 4, none⟩ = false := frozen_of_row _ _ _ _ _ GR3.out
        have z5 : (w3).frozen? ⟨g, 5, none⟩ = false := frozen_of_row _ _ _ _ _ GR3.out
        go_wp2_with fail
        try simp only [Exit.inBlock, Exit.then]
        refine bodyPost_ret (results_cell_tmp rfl _ _ g 34 #[.string lb', .int .u8 (22 : Int), .int .u8 (z : Int), .int .u16 0, .int .u32 0, .string ⟨#[]⟩] (0, 0) _ _ rfl rfl (set6_heap GR3.out rfl _ _ _ _ _ _) Tryz.underlying34 rfl infoA) rfl ?_
        refine ⟨⟨⟨⟨lb', ⟨22, z, 0, 0⟩, ⟨#[]⟩⟩, by first | (rw [HLS]; done) | (rw [HLS]; rfl), fun h => by (rw [HLS] at h ⊢) <;> first | rfl | cases h⟩⟩, ?_⟩
        rw [hgw]
        exact set6_below B3.out (Nat.le_refl g) _ _ _ _ _ _
    · skip
      by_cases hn1 : nv = 1
      · have HLS := HLS.trans (opS_arg (by decide) (by decide) (by rw [hnv]; exact hn1))
        subst hn1
        obtain ⟨v0, hv0⟩ : ∃ v0, v0 = vs.getD 0 eS := ⟨_, rfl⟩
        have HSV : Hid (v0.size ≤ 281474976710656) := by rw [hv0]; exact HSN.out 0 (by omega)
        have u1 : w3.cell? ⟨b', off' + 1, none⟩ = some (.string v0) := by rw [hv0]; exact HCN.out w3 B3.out 0 (by omega)
        rw [← hv0] at HLS
        clear hv0
        go_wp2_with fail
        refine (rjumps_any 24 w3).mono ?_
        rintro e w' ⟨rfl, hw⟩
        obtain rfl : w3 = w' := hw.symm
        rw [show jumpB 24 = false from rfl]
        have HLS : lineS ws = (match numL v0.data.toList with | none => (42, al0) | some a => if 15 < a then (42, al0) else (0, ⟨lb', ⟨24, a, 0, 0⟩, eS⟩)) := HLS
        go_wp2_with fail
        have hV := Lib.hid (rvalue_15 v0 w3 HSV.out)
        refine hV.out.mono ?_
        clear hV
        rintro e w' ⟨rfl, hw⟩
        obtain rfl : w3 = w' := hw.symm
        cases hx : numL v0.data.toList with
        | none =>
          rw [hx] at HLS
          rw [valV_none hx]
          have r0 := cell_row (j := 0) GR3.out rfl
          have r1 := cell_row (j := 1) GR3.out rfl
          have r2 := cell_row (j := 2) GR3.out rfl
          have r3 := cell_row (j := 3) GR3.out rfl
          have r4 := cell_row (j := 4) GR3.out rfl
          have r5 := cell_row (j := 5) GR3.out rfl
          have z0 : (w3).frozen? ⟨g, 0, none⟩ = false := frozen_of_row _ _ _ _ _ GR3.out
          have z1 : (w3).frozen? ⟨g, 1, none⟩ = false := frozen_of_row _ _ _ _ _ GR3.out
          have z2 : (w3).frozen? ⟨g, 2, none⟩ = false := frozen_of_row _ _ _ _ _ GR3.out
          have z3 : (w3).frozen? ⟨g, 3, none⟩ = false := frozen_of_row _ _ _ _ _ GR3.out
          have z4 : (w3).frozen? ⟨g, 4, none⟩ = false := frozen_of_row _ _ _ _ _ GR3.out
          have z5 : (w3).frozen? ⟨g, 5, none⟩ = false := frozen_of_row _ _ _ _ _ GR3.out
          go_wp2_with fail
          try simp only [Exit.inBlock, Exit.then]
          refine bodyPost_ret (results_cell_tmp rfl _ _ g 34 #[.string lb', .int .u8 24, .int .u8 (z : Int), .int .u16 0, .int .u32 0, .string ⟨#[]⟩] (0, 0) _ _ rfl rfl (set6_heap GR3.out rfl _ _ _ _ _ _) Tryz.underlying34 rfl infoA) rfl ?_
          refine ⟨⟨⟨⟨lb', ⟨24, z, 0, 0⟩, ⟨#[]⟩⟩, by first | (rw [HLS]; done) | (rw [HLS]; rfl), fun h => by (rw [HLS] at h ⊢) <;> first | rfl | cases h⟩⟩, ?_⟩
          rw [hgw]
          exact set6_below B3.out (Nat.le_refl g) _ _ _ _ _ _
        | some av =>
          rw [hx] at HLS
          by_cases h15 : 15 < av
          · have HLS : lineS ws = (42, al0) := HLS.trans (if_pos h15)
            rw [valV_big hx h15]
            have r0 := cell_row (j := 0) GR3.out rfl
            have r1 := cell_row (j := 1) GR3.out rfl
            have r2 := cell_row (j := 2) GR3.out rfl
            have r3 := cell_row (j := 3) GR3.out rfl
            have r4 := cell_row (j := 4) GR3.out rfl
            have r5 := cell_row (j := 5) GR3.out rfl
            have z0 : (w3).frozen? ⟨g, 0, none⟩ = false := frozen_of_row _ _ _ _ _ GR3.out
            have z1 : (w3).frozen? ⟨g, 1, none⟩ = false := frozen_of_row _ _ _ _ _ GR3.out
            have z2 : (w3).frozen? ⟨g, 2, none⟩ = false := frozen_of_row _ _ _ _ _ GR3.out
            have z3 : (w3).frozen? ⟨g, 3, none⟩ = false := frozen_of_row _ _ _ _ _ GR3.out
            have z4 : (w3).frozen? ⟨g, 4, none⟩ = false := frozen_of_row _ _ _ _ _ GR3.out
            have z5 : (w3).frozen? ⟨g, 5, none⟩ = false := frozen_of_row _ _ _ _ _ GR3.out
            go_wp2_with fail
            try simp only [Exit.inBlock, Exit.then]
            refine bodyPost_ret (results_cell_tmp rfl _ _ g 34 #[.string lb', .int .u8 24, .int .u8 (z : Int), .int .u16 0, .int .u32 0, .string ⟨#[]⟩] (0, 0) _ _ rfl rfl (set6_heap GR3.out rfl _ _ _ _ _ _) Tryz.underlying34 rfl infoA) rfl ?_
            refine ⟨⟨⟨⟨lb', ⟨24, z, 0, 0⟩, ⟨#[]⟩⟩, by first | (rw [HLS]; done) | (rw [HLS]; rfl), fun h => by (rw [HLS] at h ⊢) <;> first | rfl | cases h⟩⟩, ?_⟩
            rw [hgw]
            exact set6_below B3.out (Nat.le_refl g) _ _ _ _ _ _
          · have HLS : lineS ws = (0, ⟨lb', ⟨24, av, 0, 0⟩, eS⟩) := HLS.trans (if_neg h15)
            rw [valV_ok hx (by omega)]
            have t7 : decide ((av : Int) < 0) = false := decide_eq_false (by omega)
            have h256 : av < 256 := by omega
            go_upto_region 38 with fail
            have GX7 : Hid ((w3.setCell ⟨g + 1, 2, none⟩ (.int .u8 (av : Int))).heap[g + 1]? = some (.cells #[.string lb', .int .u8 24, .int .u8 (av : Int), .int .u16 0, .int .u32 0, .string ⟨#[]⟩] 34 (0, 0))) := heap_setCell_same _ _ _ _ _ _ GX3.out
            have GR7 : Hid ((w3.setCell ⟨g + 1, 2, none⟩ (.int .u8 (av : Int))).heap[g]? = some (.cells #[.string ⟨#[]⟩, .int .u8 0, .int .u8 0, .int .u16 0, .int .u32 0, .string ⟨#[]⟩] 34 (0, 0))) := (heap_setCell_other _ _ _ _ (Nat.ne_of_lt (Nat.lt_succ_self g))).trans GR3.out
            have B7 : Hid (Below g w (w3.setCell ⟨g + 1, 2, none⟩ (.int .u8 (av : Int)))) := B3.out.setCell (p := ⟨g + 1, 2, none⟩) (Nat.le_succ g) _
            generalize w3.setCell ⟨g + 1, 2, none⟩ (.int .u8 (av : Int)) = w7 at *
            clear GX3 GR3 B3 x0 x1 x2 x3 x4 x5 y0 y1 y2 y3 y4 y5
            have x0 := cell_row (j := 0) GX7.out rfl
            have x1 := cell_row (j := 1) GX7.out rfl
            have x2 := cell_row (j := 2) GX7.out rfl
            have x3 := cell_row (j := 3) GX7.out rfl
            have x4 := cell_row (j := 4) GX7.out rfl
            have x5 := cell_row (j := 5) GX7.out rfl
            have y0 : (w7).frozen? ⟨g + 1, 0, none⟩ = false := frozen_of_row _ _ _ _ _ GX7.out
            have y1 : (w7).frozen? ⟨g + 1, 1, none⟩ = false := frozen_of_row _ _ _ _ _ GX7.out
            have y2 : (w7).frozen? ⟨g + 1, 2, none⟩ = false := frozen_of_row _ _ _ _ _ GX7.out
            have y3 : (w7).frozen? ⟨g + 1, 3, none⟩ = false := frozen_of_row _ _ _ _ _ GX7.out
            have y4 : (w7).frozen? ⟨g + 1, 4, none⟩ = false := frozen_of_row _ _ _ _ _ GX7.out
            have y5 : (w7).frozen? ⟨g + 1, 5, none⟩ = false := frozen_of_row _ _ _ _ _ GX7.out
            go_upto_region 39 with fail
            have GX8 : Hid ((w7.setCell ⟨g + 1, 3, none⟩ (.int .u16 0)).heap[g + 1]? = some (.cells #[.string lb', .int .u8 24, .int .u8 (av : Int), .int .u16 0, .int .u32 0, .string ⟨#[]⟩] 34 (0, 0))) := heap_setCell_same _ _ _ _ _ _ GX7.out
            have GR8 : Hid ((w7.setCell ⟨g + 1, 3, none⟩ (.int .u16 0)).heap[g]? = some (.cells #[.string ⟨#[]⟩, .int .u8 0, .int .u8 0, .int .u16 0, .int .u32 0, .string ⟨#[]⟩] 34 (0, 0))) := (heap_setCell_other _ _ _ _ (Nat.ne_of_lt (Nat.lt_succ_self g))).trans GR7.out
            have B8 : Hid (Below g w (w7.setCell ⟨g + 1, 3, none⟩ (.int .u16 0))) := B7.out.setCell (p := ⟨g + 1, 3, none⟩) (Nat.le_succ g) _
            generalize w7.setCell ⟨g + 1, 3, none⟩ (.int .u16 0) = w8 at *
            clear GX7 GR7 B7 x0 x1 x2 x3 x4 x5 y0 y1 y2 y3 y4 y5
            have x0 := cell_row (j := 0) GX8.out rfl
            have x1 := cell_row (j := 1) GX8.out rfl
            have x2 := cell_row (j := 2) GX8.out rfl
            have x3 := cell_row (j := 3) GX8.out rfl
            have x4 := cell_row (j := 4) GX8.out rfl
            have x5 := cell_row (j := 5) GX8.out rfl
            have y0 : (w8).frozen? ⟨g + 1, 0, none⟩ = false := frozen_of_row _ _ _ _ _ GX8.out
            have y1 : (w8).frozen? ⟨g + 1, 1, none⟩ = false := frozen_of_row _ _ _ _ _ GX8.out
            have y2 : (w8).frozen? ⟨g + 1, 2, none⟩ = false := frozen_of_row _ _ _ _ _ GX8.out
            have y3 : (w8).frozen? ⟨g + 1, 3, none⟩ = false := frozen_of_row _ _ _ _ _ GX8.out
            have y4 : (w8).frozen? ⟨g + 1, 4, none⟩ = false := frozen_of_row _ _ _ _ _ GX8.out
            have y5 : (w8).frozen? ⟨g + 1, 5, none⟩ = false := frozen_of_row _ _ _ _ _ GX8.out
            have r0 := cell_row (j := 0) GR8.out rfl
            have r1 := cell_row (j := 1) GR8.out rfl
            have r2 := cell_row (j := 2) GR8.out rfl
            have r3 := cell_row (j := 3) GR8.out rfl
            have r4 := cell_row (j := 4) GR8.out rfl
            have r5 := cell_row (j := 5) GR8.out rfl
            have z0 : (w8).frozen? ⟨g, 0, none⟩ = false := frozen_of_row _ _ _ _ _ GR8.out
            have z1 : (w8).frozen? ⟨g, 1, none⟩ = false := frozen_of_row _ _ _ _ _ GR8.out
            have z2 : (w8).frozen? ⟨g, 2, none⟩ = false := frozen_of_row _ _ _ _ _ GR8.out
            have z3 : (w8).frozen? ⟨g, 3, none⟩ = false := frozen_of_row _ _ _ _ _ GR8.out
            have z4 : (w8).frozen? ⟨g, 4, none⟩ = false := frozen_of_row _ _ _ _ _ GR8.out
            have z5 : (w8).frozen? ⟨g, 5, none⟩ = false := frozen_of_row _ _ _ _ _ GR8.out
            go_wp2_with fail
            try simp only [Exit.inBlock, Exit.then]
            refine bodyPost_ret (results_cell_tmp rfl _ _ g 34 #[.string lb', .int .u8 24, .int .u8 (av : Int), .int .u16 0, .int .u32 0, .string ⟨#[]⟩] (0, 0) _ _ rfl rfl (set6_heap GR8.out rfl _ _ _ _ _ _) Tryz.underlying34 rfl infoA) rfl ?_
            refine ⟨⟨⟨⟨lb', ⟨24, av, 0, 0⟩, ⟨#[]⟩⟩, by first | (rw [HLS]; done) | (rw [HLS]; rfl), fun h => by (rw [HLS] at h ⊢) <;> first | rfl | cases h⟩⟩, ?_⟩
            rw [hgw]
            exact set6_below B8.out (Nat.le_refl g) _ _ _ _ _ _
      · have HLS := HLS.trans (opS_bad (.inr (by rw [hnv]; exact hn1)))
        have t9 : (((nv : Int) + 1) != 2) = true := bne_iff_ne.2 (by omega)
        have r0 := cell_row (j := 0) GR3.out rfl
        have r1 := cell_row (j := 1) GR3.out rfl
        have r2 := cell_row (j := 2) GR3.out rfl
        have r3 := cell_row (j := 3) GR3.out rfl
        have r4 := cell_row (j := 4) GR3.out rfl
        have r5 := cell_row (j := 5) GR3.out rfl
        have z0 : (w3).frozen? ⟨g, 0, none⟩ = false := frozen_of_row _ _ _ _ _ GR3.out
        have z1 : (w3).frozen? ⟨g, 1, none⟩ = false := frozen_of_row _ _ _ _ _ GR3.out
        have z2 : (w3).frozen? ⟨g, 2, none⟩ = false := frozen_of_row _ _ _ _ _ GR3.out
        have z3 : (w3).frozen? ⟨g, 3, none⟩ = false := frozen_of_row _ _ _ _ _ GR3.out
        have z4 : (w3).frozen? ⟨g, 4, none⟩ = false := frozen_of_row _ _ _ _ _ GR3.out
        have z5 : (w3).frozen? ⟨g, 5, none⟩ = false := frozen_of_row _ _ _ _ _ GR3.out
        go_wp2_with fail
        try simp only [Exit.inBlock, Exit.then]
        refine bodyPost_ret (results_cell_tmp rfl _ _ g 34 #[.string lb', .int .u8 (24 : Int), .int .u8 (z : Int), .int .u16 0, .int .u32 0, .string ⟨#[]⟩] (0, 0) _ _ rfl rfl (set6_heap GR3.out rfl _ _ _ _ _ _) Tryz.underlying34 rfl infoA) rfl ?_
        refine ⟨⟨⟨⟨lb', ⟨24, z, 0, 0⟩, ⟨#[]⟩⟩, by first | (rw [HLS]; done) | (rw [HLS]; rfl), fun h => by (rw [HLS] at h ⊢) <;> first | rfl | cases h⟩⟩, ?_⟩
        rw [hgw]
        exact set6_below B3.out (Nat.le_refl g) _ _ _ _ _ _
    · skip
      by_cases hn1 : nv = 1
      · have HLS := HLS.trans (opS_arg (by decide) (by decide) (by rw [hnv]; exact hn1))
        subst hn1
        obtain ⟨v0, hv0⟩ : ∃ v0, v0 = vs.getD 0 eS := ⟨_, rfl⟩
        have HSV : Hid (v0.size ≤ 281474976710656) := by rw [hv0]; exact HSN.out 0 (by omega)
        have u1 : w3.cell? ⟨b', off' + 1, none⟩ = some (.string v0) := by rw [hv0]; exact HCN.out w3 B3.out 0 (by omega)
        rw [← hv0] at HLS
        clear hv0
        go_wp2_with fail
        refine (rjumps_any 26 w3).mono ?_
        rintro e w' ⟨rfl, hw⟩
        obtain rfl : w3 = w' := hw.symm
        rw [show jumpB 26 = false from rfl]
        have HLS : lineS ws = (match numL v0.data.toList with | none => (42, al0) | some a => if 15 < a then (42, al0) else (0, ⟨lb', ⟨26, a, 0, 0⟩, eS⟩)) := HLS
        go_wp2_with fail
        have hV := Lib.hid (rvalue_15 v0 w3 HSV.out)
        refine hV.out.mono ?_
        clear hV
        rintro e w' ⟨rfl, hw⟩
        obtain rfl : w3 = w' := hw.symm
        cases hx : numL v0.data.toList with
        | none =>
          rw [hx] at HLS
          rw [valV_none hx]
          have r0 := cell_row (j := 0) GR3.out rfl
          have r1 := cell_row (j := 1) GR3.out rfl
          have r2 := cell_row (j := 2) GR3.out rfl
          have r3 := cell_row (j := 3) GR3.out rfl
          have r4 := cell_row (j := 4) GR3.out rfl
          have r5 := cell_row (j := 5) GR3.out rfl
          have z0 : (w3).frozen? ⟨g, 0, none⟩ = false := frozen_of_row _ _ _ _ _ GR3.out
          have z1 : (w3).frozen? ⟨g, 1, none⟩ = false := frozen_of_row _ _ _ _ _ GR3.out
          have z2 : (w3).frozen? ⟨g, 2, none⟩ = false := frozen_of_row _ _ _ _ _ GR3.out
          have z3 : (w3).frozen? ⟨g, 3, none⟩ = false := frozen_of_row _ _ _ _ _ GR3.out
          have z4 : (w3).frozen? ⟨g, 4, none⟩ = false := frozen_of_row _ _ _ _ _ GR3.out
          have z5 : (w3).frozen? ⟨g, 5, none⟩ = false := frozen_of_row _ _ _ _ _ GR3.out
          go_wp2_with fail
          try simp only [Exit.inBlock, Exit.then]
          refine bodyPost_ret (results_cell_tmp rfl _ _ g 34 #[.string lb', .int .u8 26, .int .u8 (z : Int), .int .u16 0, .int .u32 0, .string ⟨#[]⟩] (0, 0) _ _ rfl rfl (set6_heap GR3.out rfl _ _ _ _ _ _) Tryz.underlying34 rfl infoA) rfl ?_
          refine ⟨⟨⟨⟨lb', ⟨26, z, 0, 0⟩, ⟨#[]⟩⟩, by first | (rw [HLS]; done) | (rw [HLS]; rfl), fun h => by (rw [HLS] at h ⊢) <;> first | rfl | cases h⟩⟩, ?_⟩
          rw [hgw]
          exact set6_below B3.out (Nat.le_refl g) _ _ _ _ _ _
        | some av =>
          rw [hx] at HLS
          by_cases h15 : 15 < av
          · have HLS : lineS ws = (42, al0) := HLS.trans (if_pos h15)
            rw [valV_big hx h15]
            have r0 := cell_row (j := 0) GR3.out rfl
            have r1 := cell_row (j := 1) GR3.out rfl
            have r2 := cell_row (j := 2) GR3.out rfl
            have r3 := cell_row (j := 3) GR3.out rfl
            have r4 := cell_row (j := 4) GR3.out rfl
            have r5 := cell_row (j := 5) GR3.out rfl
            have z0 : (w3).frozen? ⟨g, 0, none⟩ = false := frozen_of_row _ _ _ _ _ GR3.out
            have z1 : (w3).frozen? ⟨g, 1, none⟩ = false := frozen_of_row _ _ _ _ _ GR3.out
            have z2 : (w3).frozen? ⟨g, 2, none⟩ = false := frozen_of_row _ _ _ _ _ GR3.out
            have z3 : (w3).frozen? ⟨g, 3, none⟩ = false := frozen_of_row _ _ _ _ _ GR3.out
            have z4 : (w3).frozen? ⟨g, 4, none⟩ = false := frozen_of_row _ _ _ _ _ GR3.out
            have z5 : (w3).frozen? ⟨g, 5, none⟩ = false := frozen_of_row _ _ _ _ _ GR3.out
            go_wp2_with fail
            try simp only [Exit.inBlock, Exit.then]
            refine bodyPost_ret (results_cell_tmp rfl _ _ g 34 #[.string lb', .int .u8 26, .int .u8 (z : Int), .int .u16 0, .int .u32 0, .string ⟨#[]⟩] (0, 0) _ _ rfl rfl (set6_heap GR3.out rfl _ _ _ _ _ _) Tryz.underlying34 rfl infoA) rfl ?_
            refine ⟨⟨⟨⟨lb', ⟨26, z, 0, 0⟩, ⟨#[]⟩⟩, by first | (rw [HLS]; done) | (rw [HLS]; rfl), fun h => by (rw [HLS] at h ⊢) <;> first | rfl | cases h⟩⟩, ?_⟩
            rw [hgw]
            exact set6_below B3.out (Nat.le_refl g) _ _ _ _ _ _
          · have HLS : lineS ws = (0, ⟨lb', ⟨26, av, 0, 0⟩, eS⟩) := HLS.trans (if_neg h15)
            rw [valV_ok hx (by omega)]
            have t7 : decide ((av : Int) < 0) = false := decide_eq_false (by omega)
            have h256 : av < 256 := by omega
            go_upto_region 38 with fail
            have GX7 : Hid ((w3.setCell ⟨g + 1, 2, none⟩ (.int .u8 (av : Int))).heap[g + 1]? = some (.cells #[.string lb', .int .u8 26, .int .u8 (av : Int), .int .u16 0, .int .u32 0, .string ⟨#[]⟩] 34 (0, 0))) := heap_setCell_same _ _ _ _ _ _ GX3.out
            have GR7 : Hid ((w3.setCell ⟨g + 1, 2, none⟩ (.int .u8 (av : Int))).heap[g]? = some (.cells #[.string ⟨#[]⟩, .int .u8 0, .int .u8 0, .int .u16 0, .int .u32 0, .string ⟨#[]⟩] 34 (0, 0))) := (heap_setCell_other _ _ _ _ (Nat.ne_of_lt (Nat.lt_succ_self g))).trans GR3.out
            have B7 : Hid (Below g w (w3.setCell ⟨g + 1, 2, none⟩ (.int .u8 (av : Int)))) := B3.out.setCell (p := ⟨g + 1, 2, none⟩) (Nat.le_succ g) _
            generalize w3.setCell ⟨g + 1, 2, none⟩ (.int .u8 (av : Int)) = w7 at *
            clear GX3 GR3 B3 x0 x1 x2 x3 x4 x5 y0 y1 y2 y3 y4 y5
            have x0 := cell_row (j := 0) GX7.out rfl
            have x1 := cell_row (j := 1) GX7.out rfl
            have x2 := cell_row (j := 2) GX7.out rfl
            have x3 := cell_row (j := 3) GX7.out rfl
            have x4 := cell_row (j := 4) GX7.out rfl
            have x5 := cell_row (j := 5) GX7.out rfl
            have y0 : (w7).frozen? ⟨g + 1, 0, none⟩ = false := frozen_of_row _ _ _ _ _ GX7.out
            have y1 : (w7).frozen? ⟨g + 1, 1, none⟩ = false := frozen_of_row _ _ _ _ _ GX7.out
            have y2 : (w7).frozen? ⟨g + 1, 2, none⟩ = false := frozen_of_row _ _ _ _ _ GX7.out
            have y3 : (w7).frozen? ⟨g + 1, 3, none⟩ = false := frozen_of_row _ _ _ _ _ GX7.out
            have y4 : (w7).frozen? ⟨g + 1, 4, none⟩ = false := frozen_of_row _ _ _ _ _ GX7.out
            have y5 : (w7).frozen? ⟨g + 1, 5, none⟩ = false := frozen_of_row _ _ _ _ _ GX7.out
            go_upto_region 39 with fail
            have GX8 : Hid ((w7.setCell ⟨g + 1, 3, none⟩ (.int .u16 0)).heap[g + 1]? = some (.cells #[.string lb', .int .u8 26, .int .u8 (av : Int), .int .u16 0, .int .u32 0, .string ⟨#[]⟩] 34 (0, 0))) := heap_setCell_same _ _ _ _ _ _ GX7.out
            have GR8 : Hid ((w7.setCell ⟨g + 1, 3, none⟩ (.int .u16 0)).heap[g]? = some (.cells #[.string ⟨#[]⟩, .int .u8 0, .int .u8 0, .int .u16 0, .int .u32 0, .string ⟨#[]⟩] 34 (0, 0))) := (heap_setCell_other _ _ _ _ (Nat.ne_of_lt (Nat.lt_succ_self g))).trans GR7.out
            have B8 : Hid (Below g w (w7.setCell ⟨g + 1, 3, none⟩ (.int .u16 0))) := B7.out.setCell (p := ⟨g + 1, 3, none⟩) (Nat.le_succ g) _
            generalize w7.setCell ⟨g + 1, 3, none⟩ (.int .u16 0) = w8 at *
            clear GX7 GR7 B7 x0 x1 x2 x3 x4 x5 y0 y1 y2 y3 y4 y5
            have x0 := cell_row (j := 0) GX8.out rfl
            have x1 := cell_row (j := 1) GX8.out rfl
            have x2 := cell_row (j := 2) GX8.out rfl
            have x3 := cell_row (j := 3) GX8.out rfl
            have x4 := cell_row (j := 4) GX8.out rfl
            have x5 := cell_row (j := 5) GX8.out rfl
            have y0 : (w8).frozen? ⟨g + 1, 0, none⟩ = false := frozen_of_row _ _ _ _ _ GX8.out
            have y1 : (w8).frozen? ⟨g + 1, 1, none⟩ = false := frozen_of_row _ _ _ _ _ GX8.out
            have y2 : (w8).frozen? ⟨g + 1, 2, none⟩ = false := frozen_of_row _ _ _ _ _ GX8.out
            have y3 : (w8).frozen? ⟨g + 1, 3, none⟩ = false := frozen_of_row _ _ _ _ _ GX8.out
            have y4 : (w8).frozen? ⟨g + 1, 4, none⟩ = false := frozen_of_row _ _ _ _ _ GX8.out
            have y5 : (w8).frozen? ⟨g + 1, 5, none⟩ = false := frozen_of_row _ _ _ _ _ GX8.out
            have r0 := cell_row (j := 0) GR8.out rfl
            have r1 := cell_row (j := 1) GR8.out rfl
            have r2 := cell_row (j := 2) GR8.out rfl
            have r3 := cell_row (j := 3) GR8.out rfl
            have r4 := cell_row (j := 4) GR8.out rfl
            have r5 := cell_row (j := 5) GR8.out rfl
            have z0 : (w8).frozen? ⟨g, 0, none⟩ = false := frozen_of_row _ _ _ _ _ GR8.out
            have z1 : (w8).frozen? ⟨g, 1, none⟩ = false := frozen_of_row _ _ _ _ _ GR8.out
            have z2 : (w8).frozen? ⟨g, 2, none⟩ = false := frozen_of_row _ _ _ _ _ GR8.out
            have z3 : (w8).frozen? ⟨g, 3, none⟩ = false := frozen_of_row _ _ _ _ _ GR8.out
            have z4 : (w8).frozen? ⟨g, 4, none⟩ = false := frozen_of_row _ _ _ _ _ GR8.out
            have z5 : (w8).frozen? ⟨g, 5, none⟩ = false := frozen_of_row _ _ _ _ _ GR8.out
            go_wp2_with fail
            try simp only [Exit.inBlock, Exit.then]
            refine bodyPost_ret (results_cell_tmp rfl _ _ g 34 #[.string lb', .int .u8 26, .int .u8 (av : Int), .int .u16 0, .int .u32 0, .string ⟨#[]⟩] (0, 0) _ _ rfl rfl (set6_heap GR8.out rfl _ _ _ _ _ _) Tryz.underlying34 rfl infoA) rfl ?_
            refine ⟨⟨⟨⟨lb', ⟨26, av, 0, 0⟩, ⟨#[]⟩⟩, by first | (rw [HLS]; done) | (rw [HLS]; rfl), fun h => by (rw [HLS] at h ⊢) <;> first | rfl | cases h⟩⟩, ?_⟩
            rw [hgw]
            exact set6_below B8.out (Nat.le_refl g) _ _ _ _ _ _
      · have HLS := HLS.trans (opS_bad (.inr (by rw [hnv]; exact hn1)))
        have t9 : (((nv : Int) + 1) != 2) = true := bne_iff_ne.2 (by omega)
        have r0 := cell_row (j := 0) GR3.out rfl
        have r1 := cell_row (j := 1) GR3.out rfl
        have r2 := cell_row (j := 2) GR3.out rfl
        have r3 := cell_row (j := 3) GR3.out rfl
        have r4 := cell_row (j := 4) GR3.out rfl
        have r5 := cell_row (j := 5) GR3.out rfl
        have z0 : (w3).frozen? ⟨g, 0, none⟩ = false := frozen_of_row _ _ _ _ _ GR3.out
        have z1 : (w3).frozen? ⟨g, 1, none⟩ = false := frozen_of_row _ _ _ _ _ GR3.out
        have z2 : (w3).frozen? ⟨g, 2, none⟩ = false := frozen_of_row _ _ _ _ _ GR3.out
        have z3 : (w3).frozen? ⟨g, 3, none⟩ = false := frozen_of_row _ _ _ _ _ GR3.out
        have z4 : (w3).frozen? ⟨g, 4, none⟩ = false := frozen_of_row _ _ _ _ _ GR3.out
        have z5 : (w3).frozen? ⟨g, 5, none⟩ = false := frozen_of_row _ _ _ _ _ GR3.out
        go_wp2_with fail
        try simp only [Exit.inBlock, Exit.then]
        refine bodyPost_ret (results_cell_tmp rfl _ _ g 34 #[.string lb', .int .u8 (26 : Int), .int .u8 (z : Int), .int .u16 0, .int .u32 0, .string ⟨#[]⟩] (0, 0) _ _ rfl rfl (set6_heap GR3.out rfl _ _ _ _ _ _) Tryz.underlying34 rfl infoA) rfl ?_
        refine ⟨⟨⟨⟨lb', ⟨26, z, 0, 0⟩, ⟨#[]⟩⟩, by first | (rw [HLS]; done) | (rw [HLS]; rfl), fun h => by (rw [HLS] at h ⊢) <;> first | rfl | cases h⟩⟩, ?_⟩
        rw [hgw]
        exact set6_below B3.out (Nat.le_refl g) _ _ _ _ _ _
end Go.Proofs.YtalmgjeiopjhlaaGreatDoor
