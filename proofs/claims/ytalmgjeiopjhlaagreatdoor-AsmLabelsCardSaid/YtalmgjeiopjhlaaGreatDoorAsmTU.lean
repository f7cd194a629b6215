/- Plain: what line makes of its words is what lineS tells. -/
import Derived.Test.YtalmgjeiopjhlaaGreatDoorAsmP
namespace Go.Proofs.YtalmgjeiopjhlaaGreatDoor
set_option linter.unusedVariables false
set_option linter.unusedSimpArgs false
theorem opR_z (l : List UInt8) : (((opR l).1 = 17 ∨ (opR l).1 = 18) ∧ ((opR l).2 = 1 ∨ (opR l).2 = 2 ∨ (opR l).2 = 4)) ∨ ((opR l).1 ≠ 17 ∧ (opR l).1 ≠ 18 ∧ (opR l).2 = 0) := by
  unfold opR
  split
  · left; decide
  split
  · left; decide
  split
  · left; decide
  split
  · left; decide
  split
  · left; decide
  split
  · left; decide
  split
  · right; decide
  rename_i h
  right
  refine ⟨fun e => h (.inl (opL_inv e (by decide)).1), fun e => h (.inr (opL_inv e (by decide)).1), rfl⟩
def okV (s : ByteArray) (most : Nat) (ob : Bool) : Bool := ob && (match numL s.data.toList with | some n => decide (n ≤ most) | none => false)
theorem okV_none {s : ByteArray} {most : Nat} {ob : Bool} (h : numL s.data.toList = none) : okV s most ob = false := by unfold okV; rw [h]; simp
theorem okV_some {s : ByteArray} {most n : Nat} {ob : Bool} (h : numL s.data.toList = some n) : okV s most ob = (ob && decide (n ≤ most)) := by unfold okV; rw [h]
structure Leaf (lab : ByteArray) (o z : Nat) (vs : List ByteArray) (ob : Bool) (y : AL) : Prop where
  yes : ob = true → y.may = true → opS lab o z vs = (0, y)
  no : (ob && y.may) = false → (opS lab o z vs).1 = 42
  ok : y.ok
theorem alm_of {lab tgt : ByteArray} {o a b c : Nat} (hlab : lab.toList.isEmpty = true ∨ labelB lab = true) : (⟨lab, ⟨o, a, b, c⟩, tgt⟩ : AL).may = (mayI o a b c && (tgt.toList.isEmpty || labelB tgt && jumpB o && decide (c = 0))) := by
  show ((lab.toList.isEmpty || labelB lab) && mayI o a b c && _) = _
  rw [show (lab.toList.isEmpty || labelB lab) = true by rw [Bool.or_eq_true]; exact hlab, Bool.true_and]
theorem may_plain {lab : ByteArray} {o a b c : Nat} (hlab : lab.toList.isEmpty = true ∨ labelB lab = true) : (⟨lab, ⟨o, a, b, c⟩, eS⟩ : AL).may = mayI o a b c := by
  rw [alm_of hlab]
  rw [show (eS.toList.isEmpty || labelB eS && jumpB o && decide (c = 0)) = true by rw [show eS.toList.isEmpty = true by rw [ByteArray.toList_eq]; rfl]; rfl, Bool.and_true]
theorem ok_of {lab tgt : ByteArray} {o a b c : Nat} (h1 : lab.size ≤ 1000000) (h2 : tgt.size ≤ 1000000) (ho : o < 28) (ha : a < 256) (hb : b < 65536) (hc : c < 4294967296) : (⟨lab, ⟨o, a, b, c⟩, tgt⟩ : AL).ok := ⟨⟨by show o < 256; omega, ha, hb, hc⟩, by show lab.size ≤ _; omega, by show tgt.size ≤ _; omega⟩
theorem eS_size : eS.size ≤ 1000000 := by show (0 : Nat) ≤ _; omega
set_option maxRecDepth 100000 in
theorem leaf0 {lab : ByteArray} {o : Nat} {vs : List ByteArray} (hlab : lab.toList.isEmpty = true ∨ labelB lab = true) (hs : lab.size ≤ 1000000) (h0 : o ≠ 0) (ho : o < 28) (hw : wordsN o = 0) (hl : vs.length = 0) : Leaf lab o 0 vs true ⟨lab, ⟨o, 0, 0, 0⟩, eS⟩ := by
  have hm : (⟨lab, ⟨o, 0, 0, 0⟩, eS⟩ : AL).may = true := by
    rw [may_plain hlab]
    have : ∀ o, o < 28 → o ≠ 0 → wordsN o = 0 → mayI o 0 0 0 = true := by decide
    exact this o ho h0 hw
  exact ⟨fun _ _ => opS_0 h0 hw hl, fun h => absurd h (by rw [hm]; decide), ok_of hs eS_size ho (by omega) (by omega) (by omega)⟩
theorem leafJ {lab v0 : ByteArray} {o : Nat} {vs : List ByteArray} (hlab : lab.toList.isEmpty = true ∨ labelB lab = true) (hs : lab.size ≤ 1000000) (ho : o = 19 ∨ o = 20) (hl : vs.length = 1) (hv : vs.getD 0 eS = v0) (hj : labelB v0 = true) (hs0 : v0.size ≤ 1000000) : Leaf lab o 0 vs true ⟨lab, ⟨o, 0, 0, 0⟩, v0⟩ := by
  have h1 : jumpB o = true := by rcases ho with rfl | rfl <;> rfl
  have hm : (⟨lab, ⟨o, 0, 0, 0⟩, v0⟩ : AL).may = true := by
    rw [alm_of hlab, hj, h1]
    have : mayI o 0 0 0 = true := by rcases ho with rfl | rfl <;> rfl
    rw [this]; simp
  have he : opS lab o 0 vs = (0, ⟨lab, ⟨o, 0, 0, 0⟩, v0⟩) := by
    rw [opS_arg (by rcases ho with rfl | rfl <;> decide) (by rcases ho with rfl | rfl <;> decide) (by rw [hl]; rcases ho with rfl | rfl <;> rfl), hv]
    unfold argS
    rw [h1, hj]; rfl
  exact ⟨fun _ _ => he, fun h => absurd h (by rw [hm]; decide), ok_of hs hs0 (by rcases ho with rfl | rfl <;> decide) (by omega) (by omega) (by omega)⟩
theorem leafW {lab v0 : ByteArray} {o z v : Nat} {vs : List ByteArray} (hlab : lab.toList.isEmpty = true ∨ labelB lab = true) (hs : lab.size ≤ 1000000) (ho : (o = 1 ∨ o = 19 ∨ o = 20) ∧ z = 0 ∨ (o = 17 ∨ o = 18) ∧ (z = 1 ∨ z = 2 ∨ z = 4)) (hl : vs.length = 1) (hv : vs.getD 0 eS = v0) (hj : (jumpB o && labelB v0) = false) (hvn : v < 4294967296) (hn : ∀ n, numL v0.data.toList = some n → v = n) : Leaf lab o z vs (okV v0 4294967295 true) ⟨lab, ⟨o, z, 0, v⟩, eS⟩ := by
  have hm : (⟨lab, ⟨o, z, 0, v⟩, eS⟩ : AL).may = true := by
    rw [may_plain hlab]
    rcases ho with ⟨rfl | rfl | rfl, rfl⟩ | ⟨rfl | rfl, rfl | rfl | rfl⟩ <;> rfl
  have he : opS lab o z vs = (match numL v0.data.toList with | some c => (0, ⟨lab, ⟨o, z, 0, c⟩, eS⟩) | none => (42, al0)) := by
    rw [opS_arg (by omega) (by rcases ho with ⟨rfl | rfl | rfl, rfl⟩ | ⟨rfl | rfl, _⟩ <;> decide) (by rw [hl]; rcases ho with ⟨rfl | rfl | rfl, rfl⟩ | ⟨rfl | rfl, _⟩ <;> rfl), hv]
    unfold argS
    rw [hj, if_neg (by decide), if_pos (by omega)]
    cases numL v0.data.toList <;> rfl
  refine ⟨fun h _ => ?_, fun h => ?_, ok_of hs eS_size (by omega) (by omega) (by omega) hvn⟩
  · rw [he]
    cases hx : numL v0.data.toList with
    | none => rw [okV_none hx] at h; cases h
    | some n => rw [← hn n hx]
  · rw [hm, Bool.and_true] at h
    rw [he]
    cases hx : numL v0.data.toList with
    | none => rfl
    | some n =>
      rw [okV_some hx, Bool.true_and, decide_eq_false_iff_not] at h
      have := hn n hx
      omega
theorem leafS {lab v0 : ByteArray} {o v : Nat} {vs : List ByteArray} (hlab : lab.toList.isEmpty = true ∨ labelB lab = true) (hs : lab.size ≤ 1000000) (ho : o = 21 ∨ o = 22 ∨ o = 24 ∨ o = 26) (hl : vs.length = 1) (hv : vs.getD 0 eS = v0) (hn : ∀ n, numL v0.data.toList = some n → v = n) : Leaf lab o 0 vs (okV v0 255 true) ⟨lab, ⟨o, v % 256, 0, 0⟩, eS⟩ := by
  have hm : (⟨lab, ⟨o, v % 256, 0, 0⟩, eS⟩ : AL).may = decide (v % 256 < 16) := by
    rw [may_plain hlab]
    rcases ho with rfl | rfl | rfl | rfl <;> rfl
  have he : opS lab o 0 vs = (match numL v0.data.toList with | none => (42, al0) | some a => if 15 < a then (42, al0) else (0, ⟨lab, ⟨o, a, 0, 0⟩, eS⟩)) := by
    rw [opS_arg (by omega) (by rcases ho with rfl | rfl | rfl | rfl <;> decide) (by rw [hl]; rcases ho with rfl | rfl | rfl | rfl <;> rfl), hv]
    unfold argS
    rw [show jumpB o = false by rcases ho with rfl | rfl | rfl | rfl <;> rfl, Bool.false_and, if_neg (by decide), if_neg (by omega)]
    cases hx : numL v0.data.toList with
    | none => rfl
    | some n =>
      show (if 15 < n then _ else if wordsN o = 2 then _ else _) = (if 15 < n then _ else _)
      rw [if_neg (show ¬ wordsN o = 2 by rcases ho with rfl | rfl | rfl | rfl <;> decide)]
  refine ⟨fun h h2 => ?_, fun h => ?_, ok_of hs eS_size (by omega) (by omega) (by omega) (by omega)⟩
  · rw [he]
    cases hx : numL v0.data.toList with
    | none => rw [okV_none hx] at h; cases h
    | some n =>
      rw [okV_some hx, Bool.true_and, decide_eq_true_eq] at h
      rw [hm, decide_eq_true_eq] at h2
      have := hn n hx
      subst this
      show (if 15 < v then _ else _) = _
      rw [if_neg (by omega), Nat.mod_eq_of_lt (by omega)]
  · rw [hm] at h
    rw [he]
    cases hx : numL v0.data.toList with
    | none => rfl
    | some n =>
      rw [okV_some hx, Bool.true_and, ← Bool.decide_and, decide_eq_false_iff_not] at h
      have := hn n hx
      subst this
      show (if 15 < v then _ else _ : Nat × AL).1 = _
      rw [if_pos (by omega)]
theorem leaf2 {lab v0 v1 : ByteArray} {o v u : Nat} {vs : List ByteArray} (hlab : lab.toList.isEmpty = true ∨ labelB lab = true) (hs : lab.size ≤ 1000000) (ho : o = 23 ∨ o = 25) (hl : vs.length = 2) (hv : vs.getD 0 eS = v0) (hv1 : vs.getD 1 eS = v1) (hn : ∀ n, numL v0.data.toList = some n → v = n) (hu : ∀ n, numL v1.data.toList = some n → u = n) : Leaf lab o 0 vs (okV v1 65535 (okV v0 255 true)) ⟨lab, ⟨o, v % 256, u % 65536, 0⟩, eS⟩ := by
  have hm : (⟨lab, ⟨o, v % 256, u % 65536, 0⟩, eS⟩ : AL).may = (decide (u % 65536 < 16) && decide (v % 256 < 16)) := by
    rw [may_plain hlab]
    rcases ho with rfl | rfl <;> rfl
  have he : opS lab o 0 vs = (match numL v0.data.toList with | none => (42, al0) | some a => if 15 < a then (42, al0) else (match numL v1.data.toList with | some b => if 15 < b then (42, al0) else (0, ⟨lab, ⟨o, a, b, 0⟩, eS⟩) | none => (42, al0))) := by
    rw [opS_arg (by omega) (by rcases ho with rfl | rfl <;> decide) (by rw [hl]; rcases ho with rfl | rfl <;> rfl), hv, hv1]
    unfold argS
    rw [show jumpB o = false by rcases ho with rfl | rfl <;> rfl, Bool.false_and, if_neg (by decide), if_neg (by omega)]
    cases hx : numL v0.data.toList with
    | none => rfl
    | some n =>
      show (if 15 < n then _ else if wordsN o = 2 then _ else _) = (if 15 < n then _ else _)
      rw [if_pos (show wordsN o = 2 by rcases ho with rfl | rfl <;> decide)]
      cases numL v1.data.toList <;> rfl
  refine ⟨fun h h2 => ?_, fun h => ?_, ok_of hs eS_size (by omega) (by omega) (by omega) (by omega)⟩
  · rw [he]
    cases hx : numL v0.data.toList with
    | none =>
      rw [okV_none hx] at h
      unfold okV at h; simp at h
    | some n =>
      have := hn n hx
      subst this
      cases hy : numL v1.data.toList with
      | none => rw [okV_none hy] at h; cases h
      | some m =>
        have := hu m hy
        subst this
        rw [okV_some hy, okV_some hx, Bool.true_and, Bool.and_eq_true, decide_eq_true_eq, decide_eq_true_eq] at h
        rw [hm, Bool.and_eq_true, decide_eq_true_eq, decide_eq_true_eq] at h2
        show (if 15 < v then _ else if 15 < u then _ else _) = _
        rw [if_neg (by omega), if_neg (by omega), Nat.mod_eq_of_lt (by omega), Nat.mod_eq_of_lt (by omega)]
  · rw [hm] at h
    rw [he]
    cases hx : numL v0.data.toList with
    | none => rfl
    | some n =>
      have := hn n hx
      subst this
      by_cases h15 : 15 < v
      · show (if 15 < v then _ else _ : Nat × AL).1 = _
        rw [if_pos h15]
      cases hy : numL v1.data.toList with
      | none =>
        show (if 15 < v then _ else _ : Nat × AL).1 = _
        rw [if_neg h15]
      | some m =>
        have := hu m hy
        subst this
        rw [okV_some hy, okV_some hx, Bool.true_and, ← Bool.decide_and, ← Bool.decide_and, ← Bool.decide_and, decide_eq_false_iff_not] at h
        show (if 15 < v then _ else if 15 < u then _ else _ : Nat × AL).1 = _
        rw [if_neg h15, if_pos (by omega)]
end Go.Proofs.YtalmgjeiopjhlaaGreatDoor
/- line's closure; line. -/
namespace Go.Proofs.YtalmgjeiopjhlaaGreatDoor
open Go.Shelf Go.RowKit
set_option linter.unusedVariables false
set_option linter.unusedSimpArgs false
def LV (s : ByteArray) (most p : Nat) (ob : Bool) (w : World) (e : Ending) (w' : World) : Prop :=
  ∃ v : Nat, v < 4294967296 ∧ e = .returned (.int .u32 ((v : Nat) : Int)) ∧ (∀ n, numL s.data.toList = some n → v = n) ∧ w'.heap[p]? = some (.cells #[.bool (okV s most ob)] 4 (0, 0)) ∧ Below p w w'
set_option maxRecDepth 100000 in
set_option maxHeartbeats 1000000 in
theorem lval_any (s : ByteArray) (most p : Nat) (m : Int) (ob : Bool) (w : World) (hs : s.size ≤ 281474976710656) (hE : ErrW w) (hT : TabW w) (hp : w.heap[p]? = some (.cells #[.bool ob] 4 (0, 0))) (hm : m = (most : Int)) (hml : most < 4294967296) :
    Calls Tryz.prog 62 #[.string s, .int .u32 m, .pointer (some ⟨p, 0, none⟩)] w fun e w' => LV s most p ob w e w' := by
  subst hm
  have HP := Lib.hid hp
  have HN := Lib.hid (number_any s w hs hE hT)
  have hlt := heap_lt hp
  clear hp hE hT
  go_enter Tryz.func62, Tryz.ntmps62
  go_wp2_with fail
  refine HN.out.mono ?_
  rintro e w2 ⟨⟨v, hv, rfl, hn⟩, hb⟩
  have G2 := Lib.hid (kept HP.out hb)
  have B2 : Hid (Below p w w2) := hb.mono (Nat.le_of_lt hlt)
  have HNN := Lib.hid hn
  clear hb HN HP
  cases ob with
  | false =>
    have HOK : Hid (okV s most false = false) := rfl
    clear hn
    have hset : (w2.setCell ⟨p, 0, none⟩ (.bool false)).heap[p]? = some (.cells #[.bool false] 4 (0, 0)) := heap_setCell_same _ _ _ _ _ _ G2.out
    have hbel : Below p w (w2.setCell ⟨p, 0, none⟩ (.bool false)) := B2.out.setCell (p := ⟨p, 0, none⟩) (Nat.le_refl _) _
    have HSET := Lib.hid hset; have HBEL := Lib.hid hbel
    clear hset hbel
    have d0 := cell_row (j := 0) G2.out rfl
    have e0 : (w2).frozen? ⟨p, 0, none⟩ = false := frozen_of_row _ _ _ _ _ G2.out
    go_wp2_with fail
    go_ret
    exact ⟨v, hv, rfl, HNN.out, by rw [HOK.out]; exact HSET.out, HBEL.out⟩
  | true =>
    cases hx : numL s.data.toList with
    | none =>
      have HOK := Lib.hid (okV_none (most := most) (ob := true) hx)
      clear hn hx
      have hset : (w2.setCell ⟨p, 0, none⟩ (.bool false)).heap[p]? = some (.cells #[.bool false] 4 (0, 0)) := heap_setCell_same _ _ _ _ _ _ G2.out
      have hbel : Below p w (w2.setCell ⟨p, 0, none⟩ (.bool false)) := B2.out.setCell (p := ⟨p, 0, none⟩) (Nat.le_refl _) _
      have HSET := Lib.hid hset; have HBEL := Lib.hid hbel
      clear hset hbel
      have d0 := cell_row (j := 0) G2.out rfl
      have e0 : (w2).frozen? ⟨p, 0, none⟩ = false := frozen_of_row _ _ _ _ _ G2.out
      go_wp2_with fail
      go_ret
      exact ⟨v, hv, rfl, HNN.out, by rw [HOK.out]; exact HSET.out, HBEL.out⟩
    | some n =>
      obtain rfl := hn n hx
      clear hn
      have HOK := Lib.hid ((okV_some (most := most) (ob := true) hx).trans (Bool.true_and _))
      clear hx
      by_cases hle : v ≤ most
      · have t1 : decide ((v : Int) ≤ (most : Int)) = true := decide_eq_true (by omega)
        rw [decide_eq_true hle] at HOK
        have hset : (w2.setCell ⟨p, 0, none⟩ (.bool true)).heap[p]? = some (.cells #[.bool true] 4 (0, 0)) := heap_setCell_same _ _ _ _ _ _ G2.out
        have hbel : Below p w (w2.setCell ⟨p, 0, none⟩ (.bool true)) := B2.out.setCell (p := ⟨p, 0, none⟩) (Nat.le_refl _) _
        have HSET := Lib.hid hset; have HBEL := Lib.hid hbel
        clear hset hbel
        have d0 := cell_row (j := 0) G2.out rfl
        have e0 : (w2).frozen? ⟨p, 0, none⟩ = false := frozen_of_row _ _ _ _ _ G2.out
        go_wp2_with fail
        go_ret
        exact ⟨v, hv, rfl, HNN.out, by rw [HOK.out]; exact HSET.out, HBEL.out⟩
      · have t1 : decide ((v : Int) ≤ (most : Int)) = false := decide_eq_false (by omega)
        rw [decide_eq_false hle] at HOK
        have hset : (w2.setCell ⟨p, 0, none⟩ (.bool false)).heap[p]? = some (.cells #[.bool false] 4 (0, 0)) := heap_setCell_same _ _ _ _ _ _ G2.out
        have hbel : Below p w (w2.setCell ⟨p, 0, none⟩ (.bool false)) := B2.out.setCell (p := ⟨p, 0, none⟩) (Nat.le_refl _) _
        have HSET := Lib.hid hset; have HBEL := Lib.hid hbel
        clear hset hbel
        have d0 := cell_row (j := 0) G2.out rfl
        have e0 : (w2).frozen? ⟨p, 0, none⟩ = false := frozen_of_row _ _ _ _ _ G2.out
        go_wp2_with fail
        go_ret
        exact ⟨v, hv, rfl, HNN.out, by rw [HOK.out]; exact HSET.out, HBEL.out⟩
def OZ (o z : Nat) : Prop := (o = 1 ∨ o = 19 ∨ o = 20) ∧ z = 0 ∨ (o = 17 ∨ o = 18) ∧ (z = 1 ∨ z = 2 ∨ z = 4)
/-- What the switch leaves: the line, and whether its numbers are. -/
structure SwR (w : World) (g : Nat) (ws : List ByteArray) (W : World) (ob : Bool) (y : AL) : Prop where
  yes : ob = true → y.may = true → lineS ws = (0, y)
  no : (ob && y.may) = false → (lineS ws).1 = 42
  ok : y.ok
  gx : W.heap[g + 1]? = some (.cells #[.string y.lab, .int .u8 (y.i.op : Int), .int .u8 (y.i.a : Int), .int .u16 (y.i.b : Int), .int .u32 (y.i.c : Int), .string y.tgt] 34 (0, 0))
  gr : W.heap[g]? = some (.cells #[.string ⟨#[]⟩, .int .u8 0, .int .u8 0, .int .u16 0, .int .u32 0, .string ⟨#[]⟩] 34 (0, 0))
  b : Below g w W
theorem hasSuf_bool (s : ByteArray) : Lib.hasSuffix s.data.toList (⟨#[58]⟩ : ByteArray).data.toList = colonB s := rfl
theorem cutsuf_any (s : ByteArray) (w : World) (hs : s.size ≤ 9223372036854775807) : Calls Tryz.prog 59 #[.string s, .string ⟨#[58]⟩] w fun e w' => e = .returned (.tuple #[.string (stripB s), .bool (colonB s)]) ∧ w' = w :=
  Any.strings_CutSuffix Tryz.laysCSuf s ⟨#[58]⟩ w hs
set_option maxRecDepth 100000 in
set_option maxHeartbeats 40000000 in
theorem line_any (ws : List ByteArray) (a : Option Addr) (c : Nat) (w : World) (hA : SliceAt w a ws.length (strV ws)) (hn : 0 < ws.length) (hc : ws.length ≤ c) (hm : c ≤ maxLen) (hs : ∀ i, i < ws.length → 0 < (ws.getD i eS).size ∧ (ws.getD i eS).size ≤ 1000000) (hE : ErrW w) (hT : TabW w) :
    Calls Tryz.prog 41 #[.slice a ws.length c] w fun e w' => OutL (lineS ws) e ∧ Below w.heap.size w w' := by
  obtain ⟨b, off, rfl, hb, hcell⟩ := hA.at hn
  have c0 : w.cell? ⟨b, off, none⟩ = some (.string (ws.getD 0 eS)) := hcell 0 hn
  obtain ⟨hs1, hs2⟩ := hs 0 hn
  have HS := Lib.hid hs
  have HSL := Lib.hid hA
  have HE := Lib.hid hE
  have HT := Lib.hid hT
  clear hs hE hT
  generalize hf : ws.getD 0 eS = f0 at *
  have hnm : ws.length ≤ 9223372036854775807 := by unfold maxLen at hm; omega
  go_enter Tryz.func41, Tryz.ntmps41
  go_upto_region 2 with fail
  have GX0 : Hid (((w.alloc (.cells Z6 34)).alloc (.cells Z6 34)).heap[w.heap.size + 1]? = some (.cells Z6 34 (0, 0))) := by
    have := heap_alloc_new (w.alloc (.cells Z6 34)) (.cells Z6 34)
    show _ = _
    simpa using this
  have GR0 : Hid (((w.alloc (.cells Z6 34)).alloc (.cells Z6 34)).heap[w.heap.size]? = some (.cells Z6 34 (0, 0))) := ((alloc_below _ _).block _ (by simp)).trans (heap_alloc_new w _)
  have B0 : Hid (Below w.heap.size w ((w.alloc (.cells Z6 34)).alloc (.cells Z6 34))) := (alloc_below _ _).alloc (by simp) _
  unfold Z6 at GX0 GR0 B0
  generalize (w.alloc (.cells #[.string ⟨#[]⟩, .int .u8 0, .int .u8 0, .int .u16 0, .int .u32 0, .string ⟨#[]⟩] 34)).alloc (.cells #[.string ⟨#[]⟩, .int .u8 0, .int .u8 0, .int .u16 0, .int .u32 0, .string ⟨#[]⟩] 34) = w0 at *
  have c0 : w0.cell? ⟨b, off, none⟩ = some (.string f0) := (B0.out.cell hb).trans c0
  have HLS : lineS ws = if colonB f0 then (if labelB (stripB f0) then restS (stripB f0) ws.tail else (101, al0)) else restS eS ws := by unfold lineS; rw [hf]
  generalize hgw : w.heap.size = g at *
  have HG := Lib.hid hgw
  have HCS := Lib.hid (fun W => cutsuf_any f0 W (by omega))
  have LS : (stripB f0).size ≤ 1000000 := by
    have := trimSuffix_len f0.data.toList [58]
    unfold stripB
    rw [show (⟨(Lib.trimSuffix f0.data.toList [58]).toArray⟩ : ByteArray).size = (Lib.trimSuffix f0.data.toList [58]).length by show (List.toArray _).size = _; simp]
    rw [size_list] at this
    omega
  generalize stripB f0 = lab at *
  generalize hcb : colonB f0 = cb at *
  go_wp2_with fail
  refine (HCS.out w0).mono ?_
  rintro e w' ⟨rfl, hw⟩
  obtain rfl : w0 = w' := hw.symm
  clear HCS c0
  go_upto_if 18 with fail
  go_cut [0] from 11 to 118 (fun l W => ∃ (a' : Option Addr) (n' c' : Nat) (lb' : ByteArray) (vs : List ByteArray), l = .slice a' n' c' ∧ OneR w g ws W a' n' c' lb' vs)
  case first =>
    cases cb with
    | true =>
      rw [if_pos rfl] at HLS
      have x0 := cell_row (j := 0) GX0.out rfl
      have x1 := cell_row (j := 1) GX0.out rfl
      have x2 := cell_row (j := 2) GX0.out rfl
      have x3 := cell_row (j := 3) GX0.out rfl
      have x4 := cell_row (j := 4) GX0.out rfl
      have x5 := cell_row (j := 5) GX0.out rfl
      have y0 : (w0).frozen? ⟨g + 1, 0, none⟩ = false := frozen_of_row _ _ _ _ _ GX0.out
      have y1 : (w0).frozen? ⟨g + 1, 1, none⟩ = false := frozen_of_row _ _ _ _ _ GX0.out
      have y2 : (w0).frozen? ⟨g + 1, 2, none⟩ = false := frozen_of_row _ _ _ _ _ GX0.out
      have y3 : (w0).frozen? ⟨g + 1, 3, none⟩ = false := frozen_of_row _ _ _ _ _ GX0.out
      have y4 : (w0).frozen? ⟨g + 1, 4, none⟩ = false := frozen_of_row _ _ _ _ _ GX0.out
      have y5 : (w0).frozen? ⟨g + 1, 5, none⟩ = false := frozen_of_row _ _ _ _ _ GX0.out
      have HLB := Lib.hid (fun W => label_any lab W (by omega))
      go_wp2_with fail
      refine (HLB.out _).mono ?_
      rintro e w1 ⟨rfl, hb1⟩
      have GX1 := Lib.hid (kept GX0.out hb1)
      have GR1 := Lib.hid (kept GR0.out hb1)
      have B1 : Hid (Below g w w1) := B0.out.trans (hb1.mono (by have h := B0.out.size; omega))
      clear hb1 GX0 GR0 B0 x0 x1 x2 x3 x4 x5 y0 y1 y2 y3 y4 y5
      have x0 := cell_row (j := 0) GX1.out rfl
      have x1 := cell_row (j := 1) GX1.out rfl
      have x2 := cell_row (j := 2) GX1.out rfl
      have x3 := cell_row (j := 3) GX1.out rfl
      have x4 := cell_row (j := 4) GX1.out rfl
      have x5 := cell_row (j := 5) GX1.out rfl
      have y0 : (w1).frozen? ⟨g + 1, 0, none⟩ = false := frozen_of_row _ _ _ _ _ GX1.out
      have y1 : (w1).frozen? ⟨g + 1, 1, none⟩ = false := frozen_of_row _ _ _ _ _ GX1.out
      have y2 : (w1).frozen? ⟨g + 1, 2, none⟩ = false := frozen_of_row _ _ _ _ _ GX1.out
      have y3 : (w1).frozen? ⟨g + 1, 3, none⟩ = false := frozen_of_row _ _ _ _ _ GX1.out
      have y4 : (w1).frozen? ⟨g + 1, 4, none⟩ = false := frozen_of_row _ _ _ _ _ GX1.out
      have y5 : (w1).frozen? ⟨g + 1, 5, none⟩ = false := frozen_of_row _ _ _ _ _ GX1.out
      cases hlb : labelB lab with
      | false =>
        rw [hlb] at HLS
        have r0 := cell_row (j := 0) GR1.out rfl
        have r1 := cell_row (j := 1) GR1.out rfl
        have r2 := cell_row (j := 2) GR1.out rfl
        have r3 := cell_row (j := 3) GR1.out rfl
        have r4 := cell_row (j := 4) GR1.out rfl
        have r5 := cell_row (j := 5) GR1.out rfl
        have z0 : (w1).frozen? ⟨g, 0, none⟩ = false := frozen_of_row _ _ _ _ _ GR1.out
        have z1 : (w1).frozen? ⟨g, 1, none⟩ = false := frozen_of_row _ _ _ _ _ GR1.out
        have z2 : (w1).frozen? ⟨g, 2, none⟩ = false := frozen_of_row _ _ _ _ _ GR1.out
        have z3 : (w1).frozen? ⟨g, 3, none⟩ = false := frozen_of_row _ _ _ _ _ GR1.out
        have z4 : (w1).frozen? ⟨g, 4, none⟩ = false := frozen_of_row _ _ _ _ _ GR1.out
        have z5 : (w1).frozen? ⟨g, 5, none⟩ = false := frozen_of_row _ _ _ _ _ GR1.out
        go_wp2_with fail
        try simp only [Exit.inBlock, Exit.then]
        refine bodyPost_ret (results_cell_tmp rfl _ _ g 34 #[.string ⟨#[]⟩, .int .u8 0, .int .u8 0, .int .u16 0, .int .u32 0, .string ⟨#[]⟩] (0, 0) _ _ rfl rfl (set6_heap GR1.out rfl _ _ _ _ _ _) Tryz.underlying34 rfl infoA) rfl ?_
        refine ⟨⟨⟨⟨⟨#[]⟩, noIns, ⟨#[]⟩⟩, by first | (rw [HLS]; done) | (rw [HLS]; rfl), fun h => by (rw [HLS] at h ⊢) <;> first | rfl | cases h⟩⟩, ?_⟩
        rw [hgw]
        exact set6_below B1.out (Nat.le_refl g) _ _ _ _ _ _
      | true =>
        rw [hlb, if_pos rfl] at HLS
        go_upto_region 6 with fail
        have GX2 : Hid (((w1.setCell ⟨g + 1, 0, none⟩ (.string lab)).drew).heap[g + 1]? = some (.cells #[.string lab, .int .u8 0, .int .u8 0, .int .u16 0, .int .u32 0, .string ⟨#[]⟩] 34 (0, 0))) := heap_setCell_same _ _ _ _ _ _ GX1.out
        have GR2 : Hid (((w1.setCell ⟨g + 1, 0, none⟩ (.string lab)).drew).heap[g]? = some (.cells #[.string ⟨#[]⟩, .int .u8 0, .int .u8 0, .int .u16 0, .int .u32 0, .string ⟨#[]⟩] 34 (0, 0))) := (heap_setCell_other _ _ _ _ (Nat.ne_of_lt (Nat.lt_succ_self g))).trans GR1.out
        have B2 : Hid (Below g w ((w1.setCell ⟨g + 1, 0, none⟩ (.string lab)).drew)) := by
          have h := B1.out.setCell (p := ⟨g + 1, 0, none⟩) (Nat.le_succ g) (.string lab)
          exact ⟨h.os, h.tape, h.output, h.size, h.block⟩
        go_region
        all_goals go_wp2_with fail
        · go_meet
          case rel => exact ⟨_, _, _, lab, ws.tail, rfl, (List.length_tail).symm, .inl (by omega), ⟨by omega, by unfold maxLen; omega⟩, HLS, tail_size HS.out, LS, .inr hlb, GX2.out, GR2.out, B2.out⟩
        · go_meet
          case rel => exact ⟨_, _, _, lab, ws.tail, rfl, (List.length_tail).symm, tail_at HSL.out, ⟨by omega, by omega⟩, HLS, tail_size HS.out, LS, .inr hlb, GX2.out, GR2.out, B2.out⟩
    | false =>
      rw [if_neg (by decide)] at HLS
      go_wp2_with fail
      go_meet
      case rel => exact ⟨_, _, _, eS, ws, rfl, rfl, HSL.out, ⟨hc, hm⟩, HLS, HS.out, by show (0 : Nat) ≤ _; omega, .inl eS_empty, GX0.out, GR0.out, B0.out⟩
  case rest =>
    obtain ⟨a', n', c', lb', vs0, rfl, HR⟩ := hcut
    clear HSL HS hs1 hs2 GX0 GR0 B0 HLS hcell hn hnm hc hm hA LS hcb
    obtain ⟨hlen, hsl, ⟨hn1, hn2⟩, HLS, hsz, lsz, lok, hgx, hgr, hbb⟩ := HR
    have GX0 := Lib.hid hgx; have GR0 := Lib.hid hgr; have B0 := Lib.hid hbb
    clear hgx hgr hbb
    obtain ⟨w0, rfl⟩ : ∃ x, x = wc := ⟨wc, rfl⟩
    have hm : n' ≤ 9223372036854775807 := by unfold maxLen at hn2; omega
    cases vs0 with
    | nil =>
      obtain rfl : n' = 0 := hlen
      have HLS : lineS ws = (100, al0) := HLS
      have x0 := cell_row (j := 0) GX0.out rfl
      have x1 := cell_row (j := 1) GX0.out rfl
      have x2 := cell_row (j := 2) GX0.out rfl
      have x3 := cell_row (j := 3) GX0.out rfl
      have x4 := cell_row (j := 4) GX0.out rfl
      have x5 := cell_row (j := 5) GX0.out rfl
      have y0 : (w0).frozen? ⟨g + 1, 0, none⟩ = false := frozen_of_row _ _ _ _ _ GX0.out
      have y1 : (w0).frozen? ⟨g + 1, 1, none⟩ = false := frozen_of_row _ _ _ _ _ GX0.out
      have y2 : (w0).frozen? ⟨g + 1, 2, none⟩ = false := frozen_of_row _ _ _ _ _ GX0.out
      have y3 : (w0).frozen? ⟨g + 1, 3, none⟩ = false := frozen_of_row _ _ _ _ _ GX0.out
      have y4 : (w0).frozen? ⟨g + 1, 4, none⟩ = false := frozen_of_row _ _ _ _ _ GX0.out
      have y5 : (w0).frozen? ⟨g + 1, 5, none⟩ = false := frozen_of_row _ _ _ _ _ GX0.out
      clear hsl hsz hn1 hn2
      have r0 := cell_row (j := 0) GR0.out rfl
      have r1 := cell_row (j := 1) GR0.out rfl
      have r2 := cell_row (j := 2) GR0.out rfl
      have r3 := cell_row (j := 3) GR0.out rfl
      have r4 := cell_row (j := 4) GR0.out rfl
      have r5 := cell_row (j := 5) GR0.out rfl
      have z0 : (w0).frozen? ⟨g, 0, none⟩ = false := frozen_of_row _ _ _ _ _ GR0.out
      have z1 : (w0).frozen? ⟨g, 1, none⟩ = false := frozen_of_row _ _ _ _ _ GR0.out
      have z2 : (w0).frozen? ⟨g, 2, none⟩ = false := frozen_of_row _ _ _ _ _ GR0.out
      have z3 : (w0).frozen? ⟨g, 3, none⟩ = false := frozen_of_row _ _ _ _ _ GR0.out
      have z4 : (w0).frozen? ⟨g, 4, none⟩ = false := frozen_of_row _ _ _ _ _ GR0.out
      have z5 : (w0).frozen? ⟨g, 5, none⟩ = false := frozen_of_row _ _ _ _ _ GR0.out
      go_wp2_with fail
      try simp only [Exit.inBlock, Exit.then]
      refine bodyPost_ret (results_cell_tmp rfl _ _ g 34 #[.string lb', .int .u8 0, .int .u8 0, .int .u16 0, .int .u32 0, .string ⟨#[]⟩] (0, 0) _ _ rfl rfl (set6_heap GR0.out rfl _ _ _ _ _ _) Tryz.underlying34 rfl infoA) rfl ?_
      refine ⟨⟨⟨⟨lb', noIns, ⟨#[]⟩⟩, by first | (rw [HLS]; done) | (rw [HLS]; rfl), fun h => by (rw [HLS] at h ⊢) <;> first | rfl | cases h⟩⟩, ?_⟩
      rw [hgw]
      exact set6_below B0.out (Nat.le_refl g) _ _ _ _ _ _
    | cons f1 vs =>
    have HLS : lineS ws = opS lb' (opR f1.data.toList).1 (opR f1.data.toList).2 vs := HLS
    have HSN : Hid (∀ i, i < vs.length → (vs.getD i eS).size ≤ 1000000) := fun i hi => by
      have := (hsz (i + 1) (by rw [List.length_cons]; omega)).2
      rw [List.getD_cons_succ] at this; omega
    have f1s : f1.size ≤ 281474976710656 := by
      have := (hsz 0 (by rw [List.length_cons]; omega)).2
      rw [List.getD_cons_zero] at this; omega
    subst hlen
    obtain ⟨b', off', rfl, hb', hc'⟩ := hsl.at (by rw [List.length_cons]; omega)
    have hbg : b' < g := HG.out ▸ hb'
    have HCN : Hid (∀ W, Below g w W → ∀ i, i < vs.length → W.cell? ⟨b', off' + (i + 1), none⟩ = some (.string (vs.getD i eS))) := fun W hW i hi => (hW.cell hbg).trans (hc' (i + 1) (by rw [List.length_cons]; omega))
    have c0 : w0.cell? ⟨b', off', none⟩ = some (.string f1) := (B0.out.cell hbg).trans (hc' 0 (by rw [List.length_cons]; omega))
    clear hsz hsl hc'
    obtain ⟨ho, hz⟩ := opR_lt f1.data.toList
    have HOZ := Lib.hid (opR_z f1.data.toList)
    have HOP := Lib.hid (fun W => split_any f1 W f1s)
    unfold opV at HOP
    generalize (opR f1.data.toList).1 = o at *
    generalize (opR f1.data.toList).2 = z at *
    rw [List.length_cons] at *
    generalize hnv : vs.length = nv at *
    have HWD := Lib.hid (fun W => words_any o W)
    generalize hwn : wordsN o = wn at *
    have HLK := Lib.hid lok
    clear lok
    have x0 := cell_row (j := 0) GX0.out rfl
    have x1 := cell_row (j := 1) GX0.out rfl
    have x2 := cell_row (j := 2) GX0.out rfl
    have x3 := cell_row (j := 3) GX0.out rfl
    have x4 := cell_row (j := 4) GX0.out rfl
    have x5 := cell_row (j := 5) GX0.out rfl
    have y0 : (w0).frozen? ⟨g + 1, 0, none⟩ = false := frozen_of_row _ _ _ _ _ GX0.out
    have y1 : (w0).frozen? ⟨g + 1, 1, none⟩ = false := frozen_of_row _ _ _ _ _ GX0.out
    have y2 : (w0).frozen? ⟨g + 1, 2, none⟩ = false := frozen_of_row _ _ _ _ _ GX0.out
    have y3 : (w0).frozen? ⟨g + 1, 3, none⟩ = false := frozen_of_row _ _ _ _ _ GX0.out
    have y4 : (w0).frozen? ⟨g + 1, 4, none⟩ = false := frozen_of_row _ _ _ _ _ GX0.out
    have y5 : (w0).frozen? ⟨g + 1, 5, none⟩ = false := frozen_of_row _ _ _ _ _ GX0.out
    go_wp2_with fail
    refine (HOP.out w0).mono ?_
    rintro e w1 ⟨rfl, hb1⟩
    have GX1 := Lib.hid (kept GX0.out hb1)
    have GR1 := Lib.hid (kept GR0.out hb1)
    have B1 : Hid (Below g w w1) := B0.out.trans (hb1.mono (by have h := B0.out.size; omega))
    clear hb1 GX0 GR0 B0 x0 x1 x2 x3 x4 x5 y0 y1 y2 y3 y4 y5
    have x0 := cell_row (j := 0) GX1.out rfl
    have x1 := cell_row (j := 1) GX1.out rfl
    have x2 := cell_row (j := 2) GX1.out rfl
    have x3 := cell_row (j := 3) GX1.out rfl
    have x4 := cell_row (j := 4) GX1.out rfl
    have x5 := cell_row (j := 5) GX1.out rfl
    have y0 : (w1).frozen? ⟨g + 1, 0, none⟩ = false := frozen_of_row _ _ _ _ _ GX1.out
    have y1 : (w1).frozen? ⟨g + 1, 1, none⟩ = false := frozen_of_row _ _ _ _ _ GX1.out
    have y2 : (w1).frozen? ⟨g + 1, 2, none⟩ = false := frozen_of_row _ _ _ _ _ GX1.out
    have y3 : (w1).frozen? ⟨g + 1, 3, none⟩ = false := frozen_of_row _ _ _ _ _ GX1.out
    have y4 : (w1).frozen? ⟨g + 1, 4, none⟩ = false := frozen_of_row _ _ _ _ _ GX1.out
    have y5 : (w1).frozen? ⟨g + 1, 5, none⟩ = false := frozen_of_row _ _ _ _ _ GX1.out
    clear c0 HOP
    by_cases ho0 : o = 0
    · have HLS := HLS.trans (opS_bad (.inl ho0))
      have t0 : ((o : Int) == 0) = true := beq_iff_eq.2 (by omega)
      have r0 := cell_row (j := 0) GR1.out rfl
      have r1 := cell_row (j := 1) GR1.out rfl
      have r2 := cell_row (j := 2) GR1.out rfl
      have r3 := cell_row (j := 3) GR1.out rfl
      have r4 := cell_row (j := 4) GR1.out rfl
      have r5 := cell_row (j := 5) GR1.out rfl
      have z0 : (w1).frozen? ⟨g, 0, none⟩ = false := frozen_of_row _ _ _ _ _ GR1.out
      have z1 : (w1).frozen? ⟨g, 1, none⟩ = false := frozen_of_row _ _ _ _ _ GR1.out
      have z2 : (w1).frozen? ⟨g, 2, none⟩ = false := frozen_of_row _ _ _ _ _ GR1.out
      have z3 : (w1).frozen? ⟨g, 3, none⟩ = false := frozen_of_row _ _ _ _ _ GR1.out
      have z4 : (w1).frozen? ⟨g, 4, none⟩ = false := frozen_of_row _ _ _ _ _ GR1.out
      have z5 : (w1).frozen? ⟨g, 5, none⟩ = false := frozen_of_row _ _ _ _ _ GR1.out
      go_wp2_with fail
      try simp only [Exit.inBlock, Exit.then]
      refine bodyPost_ret (results_cell_tmp rfl _ _ g 34 #[.string lb', .int .u8 0, .int .u8 0, .int .u16 0, .int .u32 0, .string ⟨#[]⟩] (0, 0) _ _ rfl rfl (set6_heap GR1.out rfl _ _ _ _ _ _) Tryz.underlying34 rfl infoA) rfl ?_
      refine ⟨⟨⟨⟨lb', noIns, ⟨#[]⟩⟩, by first | (rw [HLS]; done) | (rw [HLS]; rfl), fun h => by (rw [HLS] at h ⊢) <;> first | rfl | cases h⟩⟩, ?_⟩
      rw [hgw]
      exact set6_below B1.out (Nat.le_refl g) _ _ _ _ _ _
    have t0 : ((o : Int) == 0) = false := beq_eq_false_iff_ne.2 (by omega)
    go_wp2_with fail
    refine (HWD.out _).mono ?_
    rintro e w' ⟨rfl, hw⟩
    obtain rfl : w1 = w' := hw.symm
    by_cases hnw : nv = wn
    case neg =>
      have HLS := HLS.trans (opS_bad (.inr (by rw [hnv, hwn]; exact hnw)))
      have t9 : ((nv : Int) != (wn : Int)) = true := bne_iff_ne.2 (by omega)
      have r0 := cell_row (j := 0) GR1.out rfl
      have r1 := cell_row (j := 1) GR1.out rfl
      have r2 := cell_row (j := 2) GR1.out rfl
      have r3 := cell_row (j := 3) GR1.out rfl
      have r4 := cell_row (j := 4) GR1.out rfl
      have r5 := cell_row (j := 5) GR1.out rfl
      have z0 : (w1).frozen? ⟨g, 0, none⟩ = false := frozen_of_row _ _ _ _ _ GR1.out
      have z1 : (w1).frozen? ⟨g, 1, none⟩ = false := frozen_of_row _ _ _ _ _ GR1.out
      have z2 : (w1).frozen? ⟨g, 2, none⟩ = false := frozen_of_row _ _ _ _ _ GR1.out
      have z3 : (w1).frozen? ⟨g, 3, none⟩ = false := frozen_of_row _ _ _ _ _ GR1.out
      have z4 : (w1).frozen? ⟨g, 4, none⟩ = false := frozen_of_row _ _ _ _ _ GR1.out
      have z5 : (w1).frozen? ⟨g, 5, none⟩ = false := frozen_of_row _ _ _ _ _ GR1.out
      go_wp2_with fail
      try simp only [Exit.inBlock, Exit.then]
      refine bodyPost_ret (results_cell_tmp rfl _ _ g 34 #[.string lb', .int .u8 0, .int .u8 0, .int .u16 0, .int .u32 0, .string ⟨#[]⟩] (0, 0) _ _ rfl rfl (set6_heap GR1.out rfl _ _ _ _ _ _) Tryz.underlying34 rfl infoA) rfl ?_
      refine ⟨⟨⟨⟨lb', noIns, ⟨#[]⟩⟩, by first | (rw [HLS]; done) | (rw [HLS]; rfl), fun h => by (rw [HLS] at h ⊢) <;> first | rfl | cases h⟩⟩, ?_⟩
      rw [hgw]
      exact set6_below B1.out (Nat.le_refl g) _ _ _ _ _ _
    subst hnw
    have t9 : ((nv : Int) != (nv : Int)) = false := by simp
    go_upto_region 13 with fail
    have hp1 : g + 1 < w1.heap.size := heap_lt GX1.out
    have GX2 : Hid (((w1.setCell ⟨g + 1, 1, none⟩ (.int .u8 (o : Int))).setCell ⟨g + 1, 2, none⟩ (.int .u8 (z : Int))).heap[g + 1]? = some (.cells #[.string lb', .int .u8 (o : Int), .int .u8 (z : Int), .int .u16 0, .int .u32 0, .string ⟨#[]⟩] 34 (0, 0))) := heap_setCell_same _ _ _ _ _ _ (heap_setCell_same _ _ _ _ _ _ GX1.out)
    have GR2 : Hid (((w1.setCell ⟨g + 1, 1, none⟩ (.int .u8 (o : Int))).setCell ⟨g + 1, 2, none⟩ (.int .u8 (z : Int))).heap[g]? = some (.cells #[.string ⟨#[]⟩, .int .u8 0, .int .u8 0, .int .u16 0, .int .u32 0, .string ⟨#[]⟩] 34 (0, 0))) := (heap_setCell_other _ _ _ _ (Nat.ne_of_lt (Nat.lt_succ_self g))).trans ((heap_setCell_other _ _ _ _ (Nat.ne_of_lt (Nat.lt_succ_self g))).trans GR1.out)
    have B2 : Hid (Below g w ((w1.setCell ⟨g + 1, 1, none⟩ (.int .u8 (o : Int))).setCell ⟨g + 1, 2, none⟩ (.int .u8 (z : Int)))) := (B1.out.setCell (p := ⟨g + 1, 1, none⟩) (Nat.le_succ g) _).setCell (p := ⟨g + 1, 2, none⟩) (Nat.le_succ g) _
    have hp2 : g + 1 < ((w1.setCell ⟨g + 1, 1, none⟩ (.int .u8 (o : Int))).setCell ⟨g + 1, 2, none⟩ (.int .u8 (z : Int))).heap.size := heap_lt GX2.out
    generalize (w1.setCell ⟨g + 1, 1, none⟩ (.int .u8 (o : Int))).setCell ⟨g + 1, 2, none⟩ (.int .u8 (z : Int)) = w2 at *
    clear GX1 GR1 B1 x0 x1 x2 x3 x4 x5 y0 y1 y2 y3 y4 y5 hp1
    have GX3 : Hid ((w2.alloc (.cells #[.bool true] 4)).heap[g + 1]? = some (.cells #[.string lb', .int .u8 (o : Int), .int .u8 (z : Int), .int .u16 0, .int .u32 0, .string ⟨#[]⟩] 34 (0, 0))) := kept GX2.out (alloc_below _ _)
    have GR3 : Hid ((w2.alloc (.cells #[.bool true] 4)).heap[g]? = some (.cells #[.string ⟨#[]⟩, .int .u8 0, .int .u8 0, .int .u16 0, .int .u32 0, .string ⟨#[]⟩] 34 (0, 0))) := kept GR2.out (alloc_below _ _)
    have GP3 : Hid ((w2.alloc (.cells #[.bool true] 4)).heap[w2.heap.size]? = some (.cells #[.bool true] 4 (0, 0))) := heap_alloc_new _ _
    have B3 : Hid (Below g w (w2.alloc (.cells #[.bool true] 4))) := B2.out.alloc (by omega) _
    go_upto_block 0 with fail
    generalize w2.alloc (.cells #[.bool true] 4) = w3 at *
    generalize w2.heap.size = p at *
    clear GX2 GR2 B2
    have HEW : Hid (∀ W, Below g w W → ErrW W) := fun W hW => HE.out.below (by rw [HG.out]; exact hW)
    have HTW : Hid (∀ W, Below g w W → TabW W) := fun W hW => HT.out.below (by rw [HG.out]; exact hW)
    clear HE HT
    go_cut [] from 11 to 118 (fun W => ∃ (ob : Bool) (y : AL), W.heap[p]? = some (.cells #[.bool ob] 4 (0, 0)) ∧ SwR w g ws W ob y)
    case first =>
      have x0 := cell_row (j := 0) GX3.out rfl
      have x1 := cell_row (j := 1) GX3.out rfl
      have x2 := cell_row (j := 2) GX3.out rfl
      have x3 := cell_row (j := 3) GX3.out rfl
      have x4 := cell_row (j := 4) GX3.out rfl
      have x5 := cell_row (j := 5) GX3.out rfl
      have y0 : (w3).frozen? ⟨g + 1, 0, none⟩ = false := frozen_of_row _ _ _ _ _ GX3.out
      have y1 : (w3).frozen? ⟨g + 1, 1, none⟩ = false := frozen_of_row _ _ _ _ _ GX3.out
      have y2 : (w3).frozen? ⟨g + 1, 2, none⟩ = false := frozen_of_row _ _ _ _ _ GX3.out
      have y3 : (w3).frozen? ⟨g + 1, 3, none⟩ = false := frozen_of_row _ _ _ _ _ GX3.out
      have y4 : (w3).frozen? ⟨g + 1, 4, none⟩ = false := frozen_of_row _ _ _ _ _ GX3.out
      have y5 : (w3).frozen? ⟨g + 1, 5, none⟩ = false := frozen_of_row _ _ _ _ _ GX3.out
      rcases op_class o ho with rfl | ⟨h2, h16⟩ | rfl | rfl | rfl | rfl | rfl | rfl | rfl | rfl | rfl | rfl | rfl | rfl
      · exact absurd rfl ho0
      · have hw0 : wordsN o = 0 := by unfold wordsN; rw [if_neg (by omega), if_neg (by omega)]
        obtain rfl : nv = 0 := by rw [← hwn]; exact hw0
        have hz0 : z = 0 := by rcases HOZ.out with ⟨h, _⟩ | ⟨_, _, h⟩ <;> omega
        subst hz0
        go_wp2_with fail
        refine (HWD.out _).mono ?_
        rintro e w' ⟨rfl, hw⟩
        obtain rfl : w3 = w' := hw.symm
        have L := Lib.hid (leaf0 HLK.out lsz ho0 ho hw0 hnv)
        go_wp2_with fail
        go_meet
        case rel => exact ⟨true, ⟨lb', ⟨o, 0, 0, 0⟩, eS⟩, GP3.out, fun h1 h2 => HLS.trans (L.out.yes h1 h2), fun h => by rw [HLS]; exact L.out.no h, L.out.ok, GX3.out, GR3.out, B3.out⟩
      · have hw0 : wordsN 27 = 0 := by decide
        obtain rfl : nv = 0 := by rw [← hwn]; exact hw0
        have hz0 : z = 0 := by rcases HOZ.out with ⟨h, _⟩ | ⟨_, _, h⟩ <;> omega
        subst hz0
        go_wp2_with fail
        refine (HWD.out _).mono ?_
        rintro e w' ⟨rfl, hw⟩
        obtain rfl : w3 = w' := hw.symm
        have L := Lib.hid (leaf0 HLK.out lsz ho0 ho hw0 hnv)
        go_wp2_with fail
        go_meet
        case rel => exact ⟨true, ⟨lb', ⟨27, 0, 0, 0⟩, eS⟩, GP3.out, fun h1 h2 => HLS.trans (L.out.yes h1 h2), fun h => by rw [HLS]; exact L.out.no h, L.out.ok, GX3.out, GR3.out, B3.out⟩
      · skip
        have hz0 : z = 0 := by rcases HOZ.out with ⟨h, _⟩ | ⟨_, _, h⟩ <;> omega
        subst hz0
        obtain rfl : nv = 2 := by rw [← hwn]; rfl
        obtain ⟨s1, hv1⟩ : ∃ v0, v0 = vs.getD 1 eS := ⟨_, rfl⟩
        have HSV1 : Hid (s1.size ≤ 1000000) := by rw [hv1]; exact HSN.out 1 (by omega)
        have HV1 := Lib.hid hv1.symm
        clear hv1
        obtain ⟨s0, hv0⟩ : ∃ v0, v0 = vs.getD 0 eS := ⟨_, rfl⟩
        have HSV0 : Hid (s0.size ≤ 1000000) := by rw [hv0]; exact HSN.out 0 (by omega)
        have u1 : w3.cell? ⟨b', off' + 1, none⟩ = some (.string s0) := by rw [hv0]; exact HCN.out w3 B3.out 0 (by omega)
        have HV0 := Lib.hid hv0.symm
        clear hv0
        go_wp2_with fail
        refine (HWD.out _).mono ?_
        rintro e w' ⟨rfl, hw⟩
        obtain rfl : w3 = w' := hw.symm
        go_wp2_with fail
        refine (jumps_any 23 w3).mono ?_
        rintro e w' ⟨rfl, hw⟩
        obtain rfl : w3 = w' := hw.symm
        rw [show jumpB 23 = false from rfl]
        go_wp2_with fail
        refine (jumps_any 23 w3).mono ?_
        rintro e w' ⟨rfl, hw⟩
        obtain rfl : w3 = w' := hw.symm
        rw [show jumpB 23 = false from rfl]
        go_wp2_with fail
        have GC3 := cell_row (j := 0) GP3.out rfl
        refine (lval_any s0 255 p 255 true w3 (by have := HSV0.out; omega) (HEW.out _ B3.out) (HTW.out _ B3.out) GP3.out rfl (by decide)).mono ?_
        rintro e w5 ⟨v0, hv0, rfl, hn0, hgp, hbp⟩
        have HN0 := Lib.hid hn0
        have GX5 := Lib.hid ((hbp.block _ hp2).trans GX3.out)
        have GR5 := Lib.hid ((hbp.block _ (Nat.lt_of_succ_lt hp2)).trans GR3.out)
        have GP5 := Lib.hid hgp
        have B5 : Hid (Below g w w5) := B3.out.trans (hbp.mono (Nat.le_of_lt (Nat.lt_of_succ_lt hp2)))
        clear hn0 hgp hbp GC3 GX3 GR3 GP3 B3 x0 x1 x2 x3 x4 x5 y0 y1 y2 y3 y4 y5
        have x0 := cell_row (j := 0) GX5.out rfl
        have x1 := cell_row (j := 1) GX5.out rfl
        have x2 := cell_row (j := 2) GX5.out rfl
        have x3 := cell_row (j := 3) GX5.out rfl
        have x4 := cell_row (j := 4) GX5.out rfl
        have x5 := cell_row (j := 5) GX5.out rfl
        have y0 : (w5).frozen? ⟨g + 1, 0, none⟩ = false := frozen_of_row _ _ _ _ _ GX5.out
        have y1 : (w5).frozen? ⟨g + 1, 1, none⟩ = false := frozen_of_row _ _ _ _ _ GX5.out
        have y2 : (w5).frozen? ⟨g + 1, 2, none⟩ = false := frozen_of_row _ _ _ _ _ GX5.out
        have y3 : (w5).frozen? ⟨g + 1, 3, none⟩ = false := frozen_of_row _ _ _ _ _ GX5.out
        have y4 : (w5).frozen? ⟨g + 1, 4, none⟩ = false := frozen_of_row _ _ _ _ _ GX5.out
        have y5 : (w5).frozen? ⟨g + 1, 5, none⟩ = false := frozen_of_row _ _ _ _ _ GX5.out
        go_upto_region 16 with fail
        have GP6 : Hid ((w5.setCell ⟨g + 1, 2, none⟩ (.int .u8 ((v0 : Int) % 256))).heap[p]? = _) := (heap_setCell_other _ _ _ _ (Nat.ne_of_gt hp2)).trans GP5.out
        have GX6 : Hid ((w5.setCell ⟨g + 1, 2, none⟩ (.int .u8 ((v0 : Int) % 256))).heap[g + 1]? = some (.cells #[.string lb', .int .u8 23, .int .u8 ((v0 : Int) % 256), .int .u16 0, .int .u32 0, .string ⟨#[]⟩] 34 (0, 0))) := heap_setCell_same _ _ _ _ _ _ GX5.out
        have GR6 : Hid ((w5.setCell ⟨g + 1, 2, none⟩ (.int .u8 ((v0 : Int) % 256))).heap[g]? = some (.cells #[.string ⟨#[]⟩, .int .u8 0, .int .u8 0, .int .u16 0, .int .u32 0, .string ⟨#[]⟩] 34 (0, 0))) := (heap_setCell_other _ _ _ _ (Nat.ne_of_lt (Nat.lt_succ_self g))).trans GR5.out
        have B6 : Hid (Below g w (w5.setCell ⟨g + 1, 2, none⟩ (.int .u8 ((v0 : Int) % 256)))) := B5.out.setCell (p := ⟨g + 1, 2, none⟩) (Nat.le_succ g) _
        generalize w5.setCell ⟨g + 1, 2, none⟩ (.int .u8 ((v0 : Int) % 256)) = w6 at *
        clear GX5 GR5 B5 x0 x1 x2 x3 x4 x5 y0 y1 y2 y3 y4 y5
        have x0 := cell_row (j := 0) GX6.out rfl
        have x1 := cell_row (j := 1) GX6.out rfl
        have x2 := cell_row (j := 2) GX6.out rfl
        have x3 := cell_row (j := 3) GX6.out rfl
        have x4 := cell_row (j := 4) GX6.out rfl
        have x5 := cell_row (j := 5) GX6.out rfl
        have y0 : (w6).frozen? ⟨g + 1, 0, none⟩ = false := frozen_of_row _ _ _ _ _ GX6.out
        have y1 : (w6).frozen? ⟨g + 1, 1, none⟩ = false := frozen_of_row _ _ _ _ _ GX6.out
        have y2 : (w6).frozen? ⟨g + 1, 2, none⟩ = false := frozen_of_row _ _ _ _ _ GX6.out
        have y3 : (w6).frozen? ⟨g + 1, 3, none⟩ = false := frozen_of_row _ _ _ _ _ GX6.out
        have y4 : (w6).frozen? ⟨g + 1, 4, none⟩ = false := frozen_of_row _ _ _ _ _ GX6.out
        have y5 : (w6).frozen? ⟨g + 1, 5, none⟩ = false := frozen_of_row _ _ _ _ _ GX6.out
        clear GP5
        go_wp2_with fail
        refine (HWD.out _).mono ?_
        rintro e w' ⟨rfl, hw⟩
        obtain rfl : w6 = w' := hw.symm
        have u2 : w6.cell? ⟨b', off' + 2, none⟩ = some (.string s1) := by rw [← HV1.out]; exact HCN.out w6 B6.out 1 (by omega)
        go_wp2_with fail
        have GC6 := cell_row (j := 0) GP6.out rfl
        refine (lval_any s1 65535 p 65535 (okV s0 255 true) w6 (by have := HSV1.out; omega) (HEW.out _ B6.out) (HTW.out _ B6.out) GP6.out rfl (by decide)).mono ?_
        rintro e w7 ⟨v1, hv1, rfl, hn1, hgp, hbp⟩
        have HN1 := Lib.hid hn1
        have GX7 := Lib.hid ((hbp.block _ hp2).trans GX6.out)
        have GR7 := Lib.hid ((hbp.block _ (Nat.lt_of_succ_lt hp2)).trans GR6.out)
        have GP7 := Lib.hid hgp
        have B7 : Hid (Below g w w7) := B6.out.trans (hbp.mono (Nat.le_of_lt (Nat.lt_of_succ_lt hp2)))
        clear hn1 hgp hbp GC6 GX6 GR6 GP6 B6 x0 x1 x2 x3 x4 x5 y0 y1 y2 y3 y4 y5
        have x0 := cell_row (j := 0) GX7.out rfl
        have x1 := cell_row (j := 1) GX7.out rfl
        have x2 := cell_row (j := 2) GX7.out rfl
        have x3 := cell_row (j := 3) GX7.out rfl
        have x4 := cell_row (j := 4) GX7.out rfl
        have x5 := cell_row (j := 5) GX7.out rfl
        have y0 : (w7).frozen? ⟨g + 1, 0, none⟩ = false := frozen_of_row _ _ _ _ _ GX7.out
        have y1 : (w7).frozen? ⟨g + 1, 1, none⟩ = false := frozen_of_row _ _ _ _ _ GX7.out
        have y2 : (w7).frozen? ⟨g + 1, 2, none⟩ = false := frozen_of_row _ _ _ _ _ GX7.out
        have y3 : (w7).frozen? ⟨g + 1, 3, none⟩ = false := frozen_of_row _ _ _ _ _ GX7.out
        have y4 : (w7).frozen? ⟨g + 1, 4, none⟩ = false := frozen_of_row _ _ _ _ _ GX7.out
        have y5 : (w7).frozen? ⟨g + 1, 5, none⟩ = false := frozen_of_row _ _ _ _ _ GX7.out
        have L := Lib.hid (leaf2 (lab := lb') (o := 23) (vs := vs) HLK.out lsz (by omega) hnv HV0.out HV1.out HN0.out HN1.out)
        go_wp2_with fail
        have GP8 : Hid ((w7.setCell ⟨g + 1, 3, none⟩ (.int .u16 (IntKind.u16.wrap (v1 : Int)))).heap[p]? = _) := (heap_setCell_other _ _ _ _ (Nat.ne_of_gt hp2)).trans GP7.out
        have GX8 : Hid ((w7.setCell ⟨g + 1, 3, none⟩ (.int .u16 (IntKind.u16.wrap (v1 : Int)))).heap[g + 1]? = some (.cells #[.string lb', .int .u8 23, .int .u8 ((v0 : Int) % 256), .int .u16 (IntKind.u16.wrap (v1 : Int)), .int .u32 0, .string ⟨#[]⟩] 34 (0, 0))) := heap_setCell_same _ _ _ _ _ _ GX7.out
        have GR8 : Hid ((w7.setCell ⟨g + 1, 3, none⟩ (.int .u16 (IntKind.u16.wrap (v1 : Int)))).heap[g]? = some (.cells #[.string ⟨#[]⟩, .int .u8 0, .int .u8 0, .int .u16 0, .int .u32 0, .string ⟨#[]⟩] 34 (0, 0))) := (heap_setCell_other _ _ _ _ (Nat.ne_of_lt (Nat.lt_succ_self g))).trans GR7.out
        have B8 : Hid (Below g w (w7.setCell ⟨g + 1, 3, none⟩ (.int .u16 (IntKind.u16.wrap (v1 : Int))))) := B7.out.setCell (p := ⟨g + 1, 3, none⟩) (Nat.le_succ g) _
        generalize w7.setCell ⟨g + 1, 3, none⟩ (.int .u16 (IntKind.u16.wrap (v1 : Int))) = w8 at *
        clear GX7 GR7 B7 x0 x1 x2 x3 x4 x5 y0 y1 y2 y3 y4 y5
        have x0 := cell_row (j := 0) GX8.out rfl
        have x1 := cell_row (j := 1) GX8.out rfl
        have x2 := cell_row (j := 2) GX8.out rfl
        have x3 := cell_row (j := 3) GX8.out rfl
        have x4 := cell_row (j := 4) GX8.out rfl
        have x5 := cell_row (j := 5) GX8.out rfl
        have y0 : (w8).frozen? ⟨g + 1, 0, none⟩ = false := frozen_of_row _ _ _ _ _ GX8.out
        have y1 : (w8).frozen? ⟨g + 1, 1, none⟩ = false := frozen_of_row _ _ _ _ _ GX8.out
        have y2 : (w8).frozen? ⟨g + 1, 2, none⟩ = false := frozen_of_row _ _ _ _ _ GX8.out
        have y3 : (w8).frozen? ⟨g + 1, 3, none⟩ = false := frozen_of_row _ _ _ _ _ GX8.out
        have y4 : (w8).frozen? ⟨g + 1, 4, none⟩ = false := frozen_of_row _ _ _ _ _ GX8.out
        have y5 : (w8).frozen? ⟨g + 1, 5, none⟩ = false := frozen_of_row _ _ _ _ _ GX8.out
        clear GP7
        go_meet
        case rel => exact ⟨okV s1 65535 (okV s0 255 true), ⟨lb', ⟨23, v0 % 256, v1 % 65536, 0⟩, eS⟩, GP8.out, fun h1 h2 => HLS.trans (L.out.yes h1 h2), fun h => by rw [HLS]; exact L.out.no h, L.out.ok, GX8.out, GR8.out, B8.out⟩
      · skip
        have hz0 : z = 0 := by rcases HOZ.out with ⟨h, _⟩ | ⟨_, _, h⟩ <;> omega
        subst hz0
        obtain rfl : nv = 2 := by rw [← hwn]; rfl
        obtain ⟨s1, hv1⟩ : ∃ v0, v0 = vs.getD 1 eS := ⟨_, rfl⟩
        have HSV1 : Hid (s1.size ≤ 1000000) := by rw [hv1]; exact HSN.out 1 (by omega)
        have HV1 := Lib.hid hv1.symm
        clear hv1
        obtain ⟨s0, hv0⟩ : ∃ v0, v0 = vs.getD 0 eS := ⟨_, rfl⟩
        have HSV0 : Hid (s0.size ≤ 1000000) := by rw [hv0]; exact HSN.out 0 (by omega)
        have u1 : w3.cell? ⟨b', off' + 1, none⟩ = some (.string s0) := by rw [hv0]; exact HCN.out w3 B3.out 0 (by omega)
        have HV0 := Lib.hid hv0.symm
        clear hv0
        go_wp2_with fail
        refine (HWD.out _).mono ?_
        rintro e w' ⟨rfl, hw⟩
        obtain rfl : w3 = w' := hw.symm
        go_wp2_with fail
        refine (jumps_any 25 w3).mono ?_
        rintro e w' ⟨rfl, hw⟩
        obtain rfl : w3 = w' := hw.symm
        rw [show jumpB 25 = false from rfl]
        go_wp2_with fail
        refine (jumps_any 25 w3).mono ?_
        rintro e w' ⟨rfl, hw⟩
        obtain rfl : w3 = w' := hw.symm
        rw [show jumpB 25 = false from rfl]
        go_wp2_with fail
        have GC3 := cell_row (j := 0) GP3.out rfl
        refine (lval_any s0 255 p 255 true w3 (by have := HSV0.out; omega) (HEW.out _ B3.out) (HTW.out _ B3.out) GP3.out rfl (by decide)).mono ?_
        rintro e w5 ⟨v0, hv0, rfl, hn0, hgp, hbp⟩
        have HN0 := Lib.hid hn0
        have GX5 := Lib.hid ((hbp.block _ hp2).trans GX3.out)
        have GR5 := Lib.hid ((hbp.block _ (Nat.lt_of_succ_lt hp2)).trans GR3.out)
        have GP5 := Lib.hid hgp
        have B5 : Hid (Below g w w5) := B3.out.trans (hbp.mono (Nat.le_of_lt (Nat.lt_of_succ_lt hp2)))
        clear hn0 hgp hbp GC3 GX3 GR3 GP3 B3 x0 x1 x2 x3 x4 x5 y0 y1 y2 y3 y4 y5
        have x0 := cell_row (j := 0) GX5.out rfl
        have x1 := cell_row (j := 1) GX5.out rfl
        have x2 := cell_row (j := 2) GX5.out rfl
        have x3 := cell_row (j := 3) GX5.out rfl
        have x4 := cell_row (j := 4) GX5.out rfl
        have x5 := cell_row (j := 5) GX5.out rfl
        have y0 : (w5).frozen? ⟨g + 1, 0, none⟩ = false := frozen_of_row _ _ _ _ _ GX5.out
        have y1 : (w5).frozen? ⟨g + 1, 1, none⟩ = false := frozen_of_row _ _ _ _ _ GX5.out
        have y2 : (w5).frozen? ⟨g + 1, 2, none⟩ = false := frozen_of_row _ _ _ _ _ GX5.out
        have y3 : (w5).frozen? ⟨g + 1, 3, none⟩ = false := frozen_of_row _ _ _ _ _ GX5.out
        have y4 : (w5).frozen? ⟨g + 1, 4, none⟩ = false := frozen_of_row _ _ _ _ _ GX5.out
        have y5 : (w5).frozen? ⟨g + 1, 5, none⟩ = false := frozen_of_row _ _ _ _ _ GX5.out
        go_upto_region 16 with fail
        have GP6 : Hid ((w5.setCell ⟨g + 1, 2, none⟩ (.int .u8 ((v0 : Int) % 256))).heap[p]? = _) := (heap_setCell_other _ _ _ _ (Nat.ne_of_gt hp2)).trans GP5.out
        have GX6 : Hid ((w5.setCell ⟨g + 1, 2, none⟩ (.int .u8 ((v0 : Int) % 256))).heap[g + 1]? = some (.cells #[.string lb', .int .u8 25, .int .u8 ((v0 : Int) % 256), .int .u16 0, .int .u32 0, .string ⟨#[]⟩] 34 (0, 0))) := heap_setCell_same _ _ _ _ _ _ GX5.out
        have GR6 : Hid ((w5.setCell ⟨g + 1, 2, none⟩ (.int .u8 ((v0 : Int) % 256))).heap[g]? = some (.cells #[.string ⟨#[]⟩, .int .u8 0, .int .u8 0, .int .u16 0, .int .u32 0, .string ⟨#[]⟩] 34 (0, 0))) := (heap_setCell_other _ _ _ _ (Nat.ne_of_lt (Nat.lt_succ_self g))).trans GR5.out
        have B6 : Hid (Below g w (w5.setCell ⟨g + 1, 2, none⟩ (.int .u8 ((v0 : Int) % 256)))) := B5.out.setCell (p := ⟨g + 1, 2, none⟩) (Nat.le_succ g) _
        generalize w5.setCell ⟨g + 1, 2, none⟩ (.int .u8 ((v0 : Int) % 256)) = w6 at *
        clear GX5 GR5 B5 x0 x1 x2 x3 x4 x5 y0 y1 y2 y3 y4 y5
        have x0 := cell_row (j := 0) GX6.out rfl
        have x1 := cell_row (j := 1) GX6.out rfl
        have x2 := cell_row (j := 2) GX6.out rfl
        have x3 := cell_row (j := 3) GX6.out rfl
        have x4 := cell_row (j := 4) GX6.out rfl
        have x5 := cell_row (j := 5) GX6.out rfl
        have y0 : (w6).frozen? ⟨g + 1, 0, none⟩ = false := frozen_of_row _ _ _ _ _ GX6.out
        have y1 : (w6).frozen? ⟨g + 1, 1, none⟩ = false := frozen_of_row _ _ _ _ _ GX6.out
        have y2 : (w6).frozen? ⟨g + 1, 2, none⟩ = false := frozen_of_row _ _ _ _ _ GX6.out
        have y3 : (w6).frozen? ⟨g + 1, 3, none⟩ = false := frozen_of_row _ _ _ _ _ GX6.out
        have y4 : (w6).frozen? ⟨g + 1, 4, none⟩ = false := frozen_of_row _ _ _ _ _ GX6.out
        have y5 : (w6).frozen? ⟨g + 1, 5, none⟩ = false := frozen_of_row _ _ _ _ _ GX6.out
        clear GP5
        go_wp2_with fail
        refine (HWD.out _).mono ?_
        rintro e w' ⟨rfl, hw⟩
        obtain rfl : w6 = w' := hw.symm
        have u2 : w6.cell? ⟨b', off' + 2, none⟩ = some (.string s1) := by rw [← HV1.out]; exact HCN.out w6 B6.out 1 (by omega)
        go_wp2_with fail
        have GC6 := cell_row (j := 0) GP6.out rfl
        refine (lval_any s1 65535 p 65535 (okV s0 255 true) w6 (by have := HSV1.out; omega) (HEW.out _ B6.out) (HTW.out _ B6.out) GP6.out rfl (by decide)).mono ?_
        rintro e w7 ⟨v1, hv1, rfl, hn1, hgp, hbp⟩
        have HN1 := Lib.hid hn1
        have GX7 := Lib.hid ((hbp.block _ hp2).trans GX6.out)
        have GR7 := Lib.hid ((hbp.block _ (Nat.lt_of_succ_lt hp2)).trans GR6.out)
        have GP7 := Lib.hid hgp
        have B7 : Hid (Below g w w7) := B6.out.trans (hbp.mono (Nat.le_of_lt (Nat.lt_of_succ_lt hp2)))
        clear hn1 hgp hbp GC6 GX6 GR6 GP6 B6 x0 x1 x2 x3 x4 x5 y0 y1 y2 y3 y4 y5
        have x0 := cell_row (j := 0) GX7.out rfl
        have x1 := cell_row (j := 1) GX7.out rfl
        have x2 := cell_row (j := 2) GX7.out rfl
        have x3 := cell_row (j := 3) GX7.out rfl
        have x4 := cell_row (j := 4) GX7.out rfl
        have x5 := cell_row (j := 5) GX7.out rfl
        have y0 : (w7).frozen? ⟨g + 1, 0, none⟩ = false := frozen_of_row _ _ _ _ _ GX7.out
        have y1 : (w7).frozen? ⟨g + 1, 1, none⟩ = false := frozen_of_row _ _ _ _ _ GX7.out
        have y2 : (w7).frozen? ⟨g + 1, 2, none⟩ = false := frozen_of_row _ _ _ _ _ GX7.out
        have y3 : (w7).frozen? ⟨g + 1, 3, none⟩ = false := frozen_of_row _ _ _ _ _ GX7.out
        have y4 : (w7).frozen? ⟨g + 1, 4, none⟩ = false := frozen_of_row _ _ _ _ _ GX7.out
        have y5 : (w7).frozen? ⟨g + 1, 5, none⟩ = false := frozen_of_row _ _ _ _ _ GX7.out
        have L := Lib.hid (leaf2 (lab := lb') (o := 25) (vs := vs) HLK.out lsz (by omega) hnv HV0.out HV1.out HN0.out HN1.out)
        go_wp2_with fail
        have GP8 : Hid ((w7.setCell ⟨g + 1, 3, none⟩ (.int .u16 (IntKind.u16.wrap (v1 : Int)))).heap[p]? = _) := (heap_setCell_other _ _ _ _ (Nat.ne_of_gt hp2)).trans GP7.out
        have GX8 : Hid ((w7.setCell ⟨g + 1, 3, none⟩ (.int .u16 (IntKind.u16.wrap (v1 : Int)))).heap[g + 1]? = some (.cells #[.string lb', .int .u8 25, .int .u8 ((v0 : Int) % 256), .int .u16 (IntKind.u16.wrap (v1 : Int)), .int .u32 0, .string ⟨#[]⟩] 34 (0, 0))) := heap_setCell_same _ _ _ _ _ _ GX7.out
        have GR8 : Hid ((w7.setCell ⟨g + 1, 3, none⟩ (.int .u16 (IntKind.u16.wrap (v1 : Int)))).heap[g]? = some (.cells #[.string ⟨#[]⟩, .int .u8 0, .int .u8 0, .int .u16 0, .int .u32 0, .string ⟨#[]⟩] 34 (0, 0))) := (heap_setCell_other _ _ _ _ (Nat.ne_of_lt (Nat.lt_succ_self g))).trans GR7.out
        have B8 : Hid (Below g w (w7.setCell ⟨g + 1, 3, none⟩ (.int .u16 (IntKind.u16.wrap (v1 : Int))))) := B7.out.setCell (p := ⟨g + 1, 3, none⟩) (Nat.le_succ g) _
        generalize w7.setCell ⟨g + 1, 3, none⟩ (.int .u16 (IntKind.u16.wrap (v1 : Int))) = w8 at *
        clear GX7 GR7 B7 x0 x1 x2 x3 x4 x5 y0 y1 y2 y3 y4 y5
        have x0 := cell_row (j := 0) GX8.out rfl
        have x1 := cell_row (j := 1) GX8.out rfl
        have x2 := cell_row (j := 2) GX8.out rfl
        have x3 := cell_row (j := 3) GX8.out rfl
        have x4 := cell_row (j := 4) GX8.out rfl
        have x5 := cell_row (j := 5) GX8.out rfl
        have y0 : (w8).frozen? ⟨g + 1, 0, none⟩ = false := frozen_of_row _ _ _ _ _ GX8.out
        have y1 : (w8).frozen? ⟨g + 1, 1, none⟩ = false := frozen_of_row _ _ _ _ _ GX8.out
        have y2 : (w8).frozen? ⟨g + 1, 2, none⟩ = false := frozen_of_row _ _ _ _ _ GX8.out
        have y3 : (w8).frozen? ⟨g + 1, 3, none⟩ = false := frozen_of_row _ _ _ _ _ GX8.out
        have y4 : (w8).frozen? ⟨g + 1, 4, none⟩ = false := frozen_of_row _ _ _ _ _ GX8.out
        have y5 : (w8).frozen? ⟨g + 1, 5, none⟩ = false := frozen_of_row _ _ _ _ _ GX8.out
        clear GP7
        go_meet
        case rel => exact ⟨okV s1 65535 (okV s0 255 true), ⟨lb', ⟨25, v0 % 256, v1 % 65536, 0⟩, eS⟩, GP8.out, fun h1 h2 => HLS.trans (L.out.yes h1 h2), fun h => by rw [HLS]; exact L.out.no h, L.out.ok, GX8.out, GR8.out, B8.out⟩
      · skip
        have hz0 : z = 0 := by rcases HOZ.out with ⟨h, _⟩ | ⟨_, _, h⟩ <;> omega
        subst hz0
        have hoz : Hid (OZ 1 0) := by show OZ _ _; unfold OZ; omega
        obtain rfl : nv = 1 := by rw [← hwn]; rfl
        obtain ⟨s0, hv0⟩ : ∃ v0, v0 = vs.getD 0 eS := ⟨_, rfl⟩
        have HSV0 : Hid (s0.size ≤ 1000000) := by rw [hv0]; exact HSN.out 0 (by omega)
        have u1 : w3.cell? ⟨b', off' + 1, none⟩ = some (.string s0) := by rw [hv0]; exact HCN.out w3 B3.out 0 (by omega)
        have HV0 := Lib.hid hv0.symm
        clear hv0
        go_wp2_with fail
        refine (HWD.out _).mono ?_
        rintro e w' ⟨rfl, hw⟩
        obtain rfl : w3 = w' := hw.symm
        go_wp2_with fail
        refine (jumps_any 1 w3).mono ?_
        rintro e w' ⟨rfl, hw⟩
        obtain rfl : w3 = w' := hw.symm
        rw [show jumpB 1 = false from rfl]
        have hjb := Lib.hid (show (jumpB 1 && labelB s0) = false from rfl)
        go_wp2_with fail
        have GC3 := cell_row (j := 0) GP3.out rfl
        refine (lval_any s0 4294967295 p 4294967295 true w3 (by have := HSV0.out; omega) (HEW.out _ B3.out) (HTW.out _ B3.out) GP3.out rfl (by decide)).mono ?_
        rintro e w5 ⟨v0, hv0, rfl, hn0, hgp, hbp⟩
        have HN0 := Lib.hid hn0
        have GX5 := Lib.hid ((hbp.block _ hp2).trans GX3.out)
        have GR5 := Lib.hid ((hbp.block _ (Nat.lt_of_succ_lt hp2)).trans GR3.out)
        have GP5 := Lib.hid hgp
        have B5 : Hid (Below g w w5) := B3.out.trans (hbp.mono (Nat.le_of_lt (Nat.lt_of_succ_lt hp2)))
        clear hn0 hgp hbp GC3 GX3 GR3 GP3 B3 x0 x1 x2 x3 x4 x5 y0 y1 y2 y3 y4 y5
        have x0 := cell_row (j := 0) GX5.out rfl
        have x1 := cell_row (j := 1) GX5.out rfl
        have x2 := cell_row (j := 2) GX5.out rfl
        have x3 := cell_row (j := 3) GX5.out rfl
        have x4 := cell_row (j := 4) GX5.out rfl
        have x5 := cell_row (j := 5) GX5.out rfl
        have y0 : (w5).frozen? ⟨g + 1, 0, none⟩ = false := frozen_of_row _ _ _ _ _ GX5.out
        have y1 : (w5).frozen? ⟨g + 1, 1, none⟩ = false := frozen_of_row _ _ _ _ _ GX5.out
        have y2 : (w5).frozen? ⟨g + 1, 2, none⟩ = false := frozen_of_row _ _ _ _ _ GX5.out
        have y3 : (w5).frozen? ⟨g + 1, 3, none⟩ = false := frozen_of_row _ _ _ _ _ GX5.out
        have y4 : (w5).frozen? ⟨g + 1, 4, none⟩ = false := frozen_of_row _ _ _ _ _ GX5.out
        have y5 : (w5).frozen? ⟨g + 1, 5, none⟩ = false := frozen_of_row _ _ _ _ _ GX5.out
        have L := Lib.hid (leafW (lab := lb') (o := 1) (z := 0) (vs := vs) HLK.out lsz hoz.out hnv HV0.out hjb.out hv0 HN0.out)
        go_wp2_with fail
        have GP6 : Hid ((w5.setCell ⟨g + 1, 4, none⟩ (.int .u32 (v0 : Int))).heap[p]? = _) := (heap_setCell_other _ _ _ _ (Nat.ne_of_gt hp2)).trans GP5.out
        have GX6 : Hid ((w5.setCell ⟨g + 1, 4, none⟩ (.int .u32 (v0 : Int))).heap[g + 1]? = some (.cells #[.string lb', .int .u8 1, .int .u8 0, .int .u16 0, .int .u32 (v0 : Int), .string ⟨#[]⟩] 34 (0, 0))) := heap_setCell_same _ _ _ _ _ _ GX5.out
        have GR6 : Hid ((w5.setCell ⟨g + 1, 4, none⟩ (.int .u32 (v0 : Int))).heap[g]? = some (.cells #[.string ⟨#[]⟩, .int .u8 0, .int .u8 0, .int .u16 0, .int .u32 0, .string ⟨#[]⟩] 34 (0, 0))) := (heap_setCell_other _ _ _ _ (Nat.ne_of_lt (Nat.lt_succ_self g))).trans GR5.out
        have B6 : Hid (Below g w (w5.setCell ⟨g + 1, 4, none⟩ (.int .u32 (v0 : Int)))) := B5.out.setCell (p := ⟨g + 1, 4, none⟩) (Nat.le_succ g) _
        generalize w5.setCell ⟨g + 1, 4, none⟩ (.int .u32 (v0 : Int)) = w6 at *
        clear GX5 GR5 B5 x0 x1 x2 x3 x4 x5 y0 y1 y2 y3 y4 y5
        have x0 := cell_row (j := 0) GX6.out rfl
        have x1 := cell_row (j := 1) GX6.out rfl
        have x2 := cell_row (j := 2) GX6.out rfl
        have x3 := cell_row (j := 3) GX6.out rfl
        have x4 := cell_row (j := 4) GX6.out rfl
        have x5 := cell_row (j := 5) GX6.out rfl
        have y0 : (w6).frozen? ⟨g + 1, 0, none⟩ = false := frozen_of_row _ _ _ _ _ GX6.out
        have y1 : (w6).frozen? ⟨g + 1, 1, none⟩ = false := frozen_of_row _ _ _ _ _ GX6.out
        have y2 : (w6).frozen? ⟨g + 1, 2, none⟩ = false := frozen_of_row _ _ _ _ _ GX6.out
        have y3 : (w6).frozen? ⟨g + 1, 3, none⟩ = false := frozen_of_row _ _ _ _ _ GX6.out
        have y4 : (w6).frozen? ⟨g + 1, 4, none⟩ = false := frozen_of_row _ _ _ _ _ GX6.out
        have y5 : (w6).frozen? ⟨g + 1, 5, none⟩ = false := frozen_of_row _ _ _ _ _ GX6.out
        clear GP5
        go_meet
        case rel => exact ⟨okV s0 4294967295 true, ⟨lb', ⟨1, 0, 0, v0⟩, eS⟩, GP6.out, fun h1 h2 => HLS.trans (L.out.yes h1 h2), fun h => by rw [HLS]; exact L.out.no h, L.out.ok, GX6.out, GR6.out, B6.out⟩
      · skip
        have hoz : Hid (OZ 17 z) := by show OZ _ _; unfold OZ; rcases HOZ.out with ⟨h, h'⟩ | ⟨h1, h2, h⟩ <;> omega
        have tz : decide ((0 : Int) < (z : Int)) = true := decide_eq_true (by have := hoz.out; unfold OZ at this; omega)
        have tzn : 0 < z := by have := hoz.out; unfold OZ at this; omega
        obtain rfl : nv = 1 := by rw [← hwn]; rfl
        obtain ⟨s0, hv0⟩ : ∃ v0, v0 = vs.getD 0 eS := ⟨_, rfl⟩
        have HSV0 : Hid (s0.size ≤ 1000000) := by rw [hv0]; exact HSN.out 0 (by omega)
        have u1 : w3.cell? ⟨b', off' + 1, none⟩ = some (.string s0) := by rw [hv0]; exact HCN.out w3 B3.out 0 (by omega)
        have HV0 := Lib.hid hv0.symm
        clear hv0
        go_wp2_with fail
        refine (HWD.out _).mono ?_
        rintro e w' ⟨rfl, hw⟩
        obtain rfl : w3 = w' := hw.symm
        go_wp2_with fail
        refine (jumps_any 17 w3).mono ?_
        rintro e w' ⟨rfl, hw⟩
        obtain rfl : w3 = w' := hw.symm
        rw [show jumpB 17 = false from rfl]
        have hjb := Lib.hid (show (jumpB 17 && labelB s0) = false from rfl)
        go_wp2_with fail
        have GC3 := cell_row (j := 0) GP3.out rfl
        refine (lval_any s0 4294967295 p 4294967295 true w3 (by have := HSV0.out; omega) (HEW.out _ B3.out) (HTW.out _ B3.out) GP3.out rfl (by decide)).mono ?_
        rintro e w5 ⟨v0, hv0, rfl, hn0, hgp, hbp⟩
        have HN0 := Lib.hid hn0
        have GX5 := Lib.hid ((hbp.block _ hp2).trans GX3.out)
        have GR5 := Lib.hid ((hbp.block _ (Nat.lt_of_succ_lt hp2)).trans GR3.out)
        have GP5 := Lib.hid hgp
        have B5 : Hid (Below g w w5) := B3.out.trans (hbp.mono (Nat.le_of_lt (Nat.lt_of_succ_lt hp2)))
        clear hn0 hgp hbp GC3 GX3 GR3 GP3 B3 x0 x1 x2 x3 x4 x5 y0 y1 y2 y3 y4 y5
        have x0 := cell_row (j := 0) GX5.out rfl
        have x1 := cell_row (j := 1) GX5.out rfl
        have x2 := cell_row (j := 2) GX5.out rfl
        have x3 := cell_row (j := 3) GX5.out rfl
        have x4 := cell_row (j := 4) GX5.out rfl
        have x5 := cell_row (j := 5) GX5.out rfl
        have y0 : (w5).frozen? ⟨g + 1, 0, none⟩ = false := frozen_of_row _ _ _ _ _ GX5.out
        have y1 : (w5).frozen? ⟨g + 1, 1, none⟩ = false := frozen_of_row _ _ _ _ _ GX5.out
        have y2 : (w5).frozen? ⟨g + 1, 2, none⟩ = false := frozen_of_row _ _ _ _ _ GX5.out
        have y3 : (w5).frozen? ⟨g + 1, 3, none⟩ = false := frozen_of_row _ _ _ _ _ GX5.out
        have y4 : (w5).frozen? ⟨g + 1, 4, none⟩ = false := frozen_of_row _ _ _ _ _ GX5.out
        have y5 : (w5).frozen? ⟨g + 1, 5, none⟩ = false := frozen_of_row _ _ _ _ _ GX5.out
        have L := Lib.hid (leafW (lab := lb') (o := 17) (z := z) (vs := vs) HLK.out lsz hoz.out hnv HV0.out hjb.out hv0 HN0.out)
        go_wp2_with fail
        have GP6 : Hid ((w5.setCell ⟨g + 1, 4, none⟩ (.int .u32 (v0 : Int))).heap[p]? = _) := (heap_setCell_other _ _ _ _ (Nat.ne_of_gt hp2)).trans GP5.out
        have GX6 : Hid ((w5.setCell ⟨g + 1, 4, none⟩ (.int .u32 (v0 : Int))).heap[g + 1]? = some (.cells #[.string lb', .int .u8 17, .int .u8 (z : Int), .int .u16 0, .int .u32 (v0 : Int), .string ⟨#[]⟩] 34 (0, 0))) := heap_setCell_same _ _ _ _ _ _ GX5.out
        have GR6 : Hid ((w5.setCell ⟨g + 1, 4, none⟩ (.int .u32 (v0 : Int))).heap[g]? = some (.cells #[.string ⟨#[]⟩, .int .u8 0, .int .u8 0, .int .u16 0, .int .u32 0, .string ⟨#[]⟩] 34 (0, 0))) := (heap_setCell_other _ _ _ _ (Nat.ne_of_lt (Nat.lt_succ_self g))).trans GR5.out
        have B6 : Hid (Below g w (w5.setCell ⟨g + 1, 4, none⟩ (.int .u32 (v0 : Int)))) := B5.out.setCell (p := ⟨g + 1, 4, none⟩) (Nat.le_succ g) _
        generalize w5.setCell ⟨g + 1, 4, none⟩ (.int .u32 (v0 : Int)) = w6 at *
        clear GX5 GR5 B5 x0 x1 x2 x3 x4 x5 y0 y1 y2 y3 y4 y5
        have x0 := cell_row (j := 0) GX6.out rfl
        have x1 := cell_row (j := 1) GX6.out rfl
        have x2 := cell_row (j := 2) GX6.out rfl
        have x3 := cell_row (j := 3) GX6.out rfl
        have x4 := cell_row (j := 4) GX6.out rfl
        have x5 := cell_row (j := 5) GX6.out rfl
        have y0 : (w6).frozen? ⟨g + 1, 0, none⟩ = false := frozen_of_row _ _ _ _ _ GX6.out
        have y1 : (w6).frozen? ⟨g + 1, 1, none⟩ = false := frozen_of_row _ _ _ _ _ GX6.out
        have y2 : (w6).frozen? ⟨g + 1, 2, none⟩ = false := frozen_of_row _ _ _ _ _ GX6.out
        have y3 : (w6).frozen? ⟨g + 1, 3, none⟩ = false := frozen_of_row _ _ _ _ _ GX6.out
        have y4 : (w6).frozen? ⟨g + 1, 4, none⟩ = false := frozen_of_row _ _ _ _ _ GX6.out
        have y5 : (w6).frozen? ⟨g + 1, 5, none⟩ = false := frozen_of_row _ _ _ _ _ GX6.out
        clear GP5
        go_meet
        case rel => exact ⟨okV s0 4294967295 true, ⟨lb', ⟨17, z, 0, v0⟩, eS⟩, GP6.out, fun h1 h2 => HLS.trans (L.out.yes h1 h2), fun h => by rw [HLS]; exact L.out.no h, L.out.ok, GX6.out, GR6.out, B6.out⟩
      · skip
        have hoz : Hid (OZ 18 z) := by show OZ _ _; unfold OZ; rcases HOZ.out with ⟨h, h'⟩ | ⟨h1, h2, h⟩ <;> omega
        have tz : decide ((0 : Int) < (z : Int)) = true := decide_eq_true (by have := hoz.out; unfold OZ at this; omega)
        have tzn : 0 < z := by have := hoz.out; unfold OZ at this; omega
        obtain rfl : nv = 1 := by rw [← hwn]; rfl
        obtain ⟨s0, hv0⟩ : ∃ v0, v0 = vs.getD 0 eS := ⟨_, rfl⟩
        have HSV0 : Hid (s0.size ≤ 1000000) := by rw [hv0]; exact HSN.out 0 (by omega)
        have u1 : w3.cell? ⟨b', off' + 1, none⟩ = some (.string s0) := by rw [hv0]; exact HCN.out w3 B3.out 0 (by omega)
        have HV0 := Lib.hid hv0.symm
        clear hv0
        go_wp2_with fail
        refine (HWD.out _).mono ?_
        rintro e w' ⟨rfl, hw⟩
        obtain rfl : w3 = w' := hw.symm
        go_wp2_with fail
        refine (jumps_any 18 w3).mono ?_
        rintro e w' ⟨rfl, hw⟩
        obtain rfl : w3 = w' := hw.symm
        rw [show jumpB 18 = false from rfl]
        have hjb := Lib.hid (show (jumpB 18 && labelB s0) = false from rfl)
        go_wp2_with fail
        have GC3 := cell_row (j := 0) GP3.out rfl
        refine (lval_any s0 4294967295 p 4294967295 true w3 (by have := HSV0.out; omega) (HEW.out _ B3.out) (HTW.out _ B3.out) GP3.out rfl (by decide)).mono ?_
        rintro e w5 ⟨v0, hv0, rfl, hn0, hgp, hbp⟩
        have HN0 := Lib.hid hn0
        have GX5 := Lib.hid ((hbp.block _ hp2).trans GX3.out)
        have GR5 := Lib.hid ((hbp.block _ (Nat.lt_of_succ_lt hp2)).trans GR3.out)
        have GP5 := Lib.hid hgp
        have B5 : Hid (Below g w w5) := B3.out.trans (hbp.mono (Nat.le_of_lt (Nat.lt_of_succ_lt hp2)))
        clear hn0 hgp hbp GC3 GX3 GR3 GP3 B3 x0 x1 x2 x3 x4 x5 y0 y1 y2 y3 y4 y5
        have x0 := cell_row (j := 0) GX5.out rfl
        have x1 := cell_row (j := 1) GX5.out rfl
        have x2 := cell_row (j := 2) GX5.out rfl
        have x3 := cell_row (j := 3) GX5.out rfl
        have x4 := cell_row (j := 4) GX5.out rfl
        have x5 := cell_row (j := 5) GX5.out rfl
        have y0 : (w5).frozen? ⟨g + 1, 0, none⟩ = false := frozen_of_row _ _ _ _ _ GX5.out
        have y1 : (w5).frozen? ⟨g + 1, 1, none⟩ = false := frozen_of_row _ _ _ _ _ GX5.out
        have y2 : (w5).frozen? ⟨g + 1, 2, none⟩ = false := frozen_of_row _ _ _ _ _ GX5.out
        have y3 : (w5).frozen? ⟨g + 1, 3, none⟩ = false := frozen_of_row _ _ _ _ _ GX5.out
        have y4 : (w5).frozen? ⟨g + 1, 4, none⟩ = false := frozen_of_row _ _ _ _ _ GX5.out
        have y5 : (w5).frozen? ⟨g + 1, 5, none⟩ = false := frozen_of_row _ _ _ _ _ GX5.out
        have L := Lib.hid (leafW (lab := lb') (o := 18) (z := z) (vs := vs) HLK.out lsz hoz.out hnv HV0.out hjb.out hv0 HN0.out)
        go_wp2_with fail
        have GP6 : Hid ((w5.setCell ⟨g + 1, 4, none⟩ (.int .u32 (v0 : Int))).heap[p]? = _) := (heap_setCell_other _ _ _ _ (Nat.ne_of_gt hp2)).trans GP5.out
        have GX6 : Hid ((w5.setCell ⟨g + 1, 4, none⟩ (.int .u32 (v0 : Int))).heap[g + 1]? = some (.cells #[.string lb', .int .u8 18, .int .u8 (z : Int), .int .u16 0, .int .u32 (v0 : Int), .string ⟨#[]⟩] 34 (0, 0))) := heap_setCell_same _ _ _ _ _ _ GX5.out
        have GR6 : Hid ((w5.setCell ⟨g + 1, 4, none⟩ (.int .u32 (v0 : Int))).heap[g]? = some (.cells #[.string ⟨#[]⟩, .int .u8 0, .int .u8 0, .int .u16 0, .int .u32 0, .string ⟨#[]⟩] 34 (0, 0))) := (heap_setCell_other _ _ _ _ (Nat.ne_of_lt (Nat.lt_succ_self g))).trans GR5.out
        have B6 : Hid (Below g w (w5.setCell ⟨g + 1, 4, none⟩ (.int .u32 (v0 : Int)))) := B5.out.setCell (p := ⟨g + 1, 4, none⟩) (Nat.le_succ g) _
        generalize w5.setCell ⟨g + 1, 4, none⟩ (.int .u32 (v0 : Int)) = w6 at *
        clear GX5 GR5 B5 x0 x1 x2 x3 x4 x5 y0 y1 y2 y3 y4 y5
        have x0 := cell_row (j := 0) GX6.out rfl
        have x1 := cell_row (j := 1) GX6.out rfl
        have x2 := cell_row (j := 2) GX6.out rfl
        have x3 := cell_row (j := 3) GX6.out rfl
        have x4 := cell_row (j := 4) GX6.out rfl
        have x5 := cell_row (j := 5) GX6.out rfl
        have y0 : (w6).frozen? ⟨g + 1, 0, none⟩ = false := frozen_of_row _ _ _ _ _ GX6.out
        have y1 : (w6).frozen? ⟨g + 1, 1, none⟩ = false := frozen_of_row _ _ _ _ _ GX6.out
        have y2 : (w6).frozen? ⟨g + 1, 2, none⟩ = false := frozen_of_row _ _ _ _ _ GX6.out
        have y3 : (w6).frozen? ⟨g + 1, 3, none⟩ = false := frozen_of_row _ _ _ _ _ GX6.out
        have y4 : (w6).frozen? ⟨g + 1, 4, none⟩ = false := frozen_of_row _ _ _ _ _ GX6.out
        have y5 : (w6).frozen? ⟨g + 1, 5, none⟩ = false := frozen_of_row _ _ _ _ _ GX6.out
        clear GP5
        go_meet
        case rel => exact ⟨okV s0 4294967295 true, ⟨lb', ⟨18, z, 0, v0⟩, eS⟩, GP6.out, fun h1 h2 => HLS.trans (L.out.yes h1 h2), fun h => by rw [HLS]; exact L.out.no h, L.out.ok, GX6.out, GR6.out, B6.out⟩
      · skip
        have hz0 : z = 0 := by rcases HOZ.out with ⟨h, _⟩ | ⟨_, _, h⟩ <;> omega
        subst hz0
        have hoz : Hid (OZ 19 0) := by show OZ _ _; unfold OZ; omega
        obtain rfl : nv = 1 := by rw [← hwn]; rfl
        obtain ⟨s0, hv0⟩ : ∃ v0, v0 = vs.getD 0 eS := ⟨_, rfl⟩
        have HSV0 : Hid (s0.size ≤ 1000000) := by rw [hv0]; exact HSN.out 0 (by omega)
        have u1 : w3.cell? ⟨b', off' + 1, none⟩ = some (.string s0) := by rw [hv0]; exact HCN.out w3 B3.out 0 (by omega)
        have HV0 := Lib.hid hv0.symm
        clear hv0
        go_wp2_with fail
        refine (HWD.out _).mono ?_
        rintro e w' ⟨rfl, hw⟩
        obtain rfl : w3 = w' := hw.symm
        go_wp2_with fail
        refine (jumps_any 19 w3).mono ?_
        rintro e w' ⟨rfl, hw⟩
        obtain rfl : w3 = w' := hw.symm
        rw [show jumpB 19 = true from rfl]
        go_wp2_with fail
        refine (label_any s0 w3 (by have := HSV0.out; omega)).mono ?_
        rintro e w4 ⟨rfl, hb4⟩
        have GX4 := Lib.hid (kept GX3.out hb4)
        have GR4 := Lib.hid (kept GR3.out hb4)
        have GP4 := Lib.hid (kept GP3.out hb4)
        have B4 : Hid (Below g w w4) := B3.out.trans (hb4.mono (by have := heap_lt GX3.out; omega))
        have u1 : w4.cell? ⟨b', off' + 1, none⟩ = some (.string s0) := by rw [← HV0.out]; exact HCN.out w4 B4.out 0 (by omega)
        clear hb4 GX3 GR3 GP3 B3 x0 x1 x2 x3 x4 x5 y0 y1 y2 y3 y4 y5
        have x0 := cell_row (j := 0) GX4.out rfl
        have x1 := cell_row (j := 1) GX4.out rfl
        have x2 := cell_row (j := 2) GX4.out rfl
        have x3 := cell_row (j := 3) GX4.out rfl
        have x4 := cell_row (j := 4) GX4.out rfl
        have x5 := cell_row (j := 5) GX4.out rfl
        have y0 : (w4).frozen? ⟨g + 1, 0, none⟩ = false := frozen_of_row _ _ _ _ _ GX4.out
        have y1 : (w4).frozen? ⟨g + 1, 1, none⟩ = false := frozen_of_row _ _ _ _ _ GX4.out
        have y2 : (w4).frozen? ⟨g + 1, 2, none⟩ = false := frozen_of_row _ _ _ _ _ GX4.out
        have y3 : (w4).frozen? ⟨g + 1, 3, none⟩ = false := frozen_of_row _ _ _ _ _ GX4.out
        have y4 : (w4).frozen? ⟨g + 1, 4, none⟩ = false := frozen_of_row _ _ _ _ _ GX4.out
        have y5 : (w4).frozen? ⟨g + 1, 5, none⟩ = false := frozen_of_row _ _ _ _ _ GX4.out
        cases hl0 : labelB s0 with
        | true =>
          have L := Lib.hid (leafJ (lab := lb') (o := 19) (vs := vs) HLK.out lsz (by omega) hnv HV0.out hl0 HSV0.out)
          go_wp2_with fail
          have GP6 : Hid ((w4.setCell ⟨g + 1, 5, none⟩ (.string s0)).heap[p]? = _) := (heap_setCell_other _ _ _ _ (Nat.ne_of_gt hp2)).trans GP4.out
          have GX6 : Hid ((w4.setCell ⟨g + 1, 5, none⟩ (.string s0)).heap[g + 1]? = some (.cells #[.string lb', .int .u8 19, .int .u8 0, .int .u16 0, .int .u32 0, .string s0] 34 (0, 0))) := heap_setCell_same _ _ _ _ _ _ GX4.out
          have GR6 : Hid ((w4.setCell ⟨g + 1, 5, none⟩ (.string s0)).heap[g]? = some (.cells #[.string ⟨#[]⟩, .int .u8 0, .int .u8 0, .int .u16 0, .int .u32 0, .string ⟨#[]⟩] 34 (0, 0))) := (heap_setCell_other _ _ _ _ (Nat.ne_of_lt (Nat.lt_succ_self g))).trans GR4.out
          have B6 : Hid (Below g w (w4.setCell ⟨g + 1, 5, none⟩ (.string s0))) := B4.out.setCell (p := ⟨g + 1, 5, none⟩) (Nat.le_succ g) _
          generalize w4.setCell ⟨g + 1, 5, none⟩ (.string s0) = w6 at *
          clear GX4 GR4 B4 x0 x1 x2 x3 x4 x5 y0 y1 y2 y3 y4 y5
          have x0 := cell_row (j := 0) GX6.out rfl
          have x1 := cell_row (j := 1) GX6.out rfl
          have x2 := cell_row (j := 2) GX6.out rfl
          have x3 := cell_row (j := 3) GX6.out rfl
          have x4 := cell_row (j := 4) GX6.out rfl
          have x5 := cell_row (j := 5) GX6.out rfl
          have y0 : (w6).frozen? ⟨g + 1, 0, none⟩ = false := frozen_of_row _ _ _ _ _ GX6.out
          have y1 : (w6).frozen? ⟨g + 1, 1, none⟩ = false := frozen_of_row _ _ _ _ _ GX6.out
          have y2 : (w6).frozen? ⟨g + 1, 2, none⟩ = false := frozen_of_row _ _ _ _ _ GX6.out
          have y3 : (w6).frozen? ⟨g + 1, 3, none⟩ = false := frozen_of_row _ _ _ _ _ GX6.out
          have y4 : (w6).frozen? ⟨g + 1, 4, none⟩ = false := frozen_of_row _ _ _ _ _ GX6.out
          have y5 : (w6).frozen? ⟨g + 1, 5, none⟩ = false := frozen_of_row _ _ _ _ _ GX6.out
          clear GP4
          go_meet
          case rel => exact ⟨true, ⟨lb', ⟨19, 0, 0, 0⟩, s0⟩, GP6.out, fun h1 h2 => HLS.trans (L.out.yes h1 h2), fun h => by rw [HLS]; exact L.out.no h, L.out.ok, GX6.out, GR6.out, B6.out⟩
        | false =>
          have hjb := Lib.hid (show (jumpB 19 && labelB s0) = false by rw [hl0]; rfl)
          go_wp2_with fail
          refine (jumps_any 19 w4).mono ?_
          rintro e w' ⟨rfl, hw⟩
          obtain rfl : w4 = w' := hw.symm
          rw [show jumpB 19 = true from rfl]
          go_wp2_with fail
          have GC4 := cell_row (j := 0) GP4.out rfl
          refine (lval_any s0 4294967295 p 4294967295 true w4 (by have := HSV0.out; omega) (HEW.out _ B4.out) (HTW.out _ B4.out) GP4.out rfl (by decide)).mono ?_
          rintro e w5 ⟨v0, hv0, rfl, hn0, hgp, hbp⟩
          have HN0 := Lib.hid hn0
          have GX5 := Lib.hid ((hbp.block _ hp2).trans GX4.out)
          have GR5 := Lib.hid ((hbp.block _ (Nat.lt_of_succ_lt hp2)).trans GR4.out)
          have GP5 := Lib.hid hgp
          have B5 : Hid (Below g w w5) := B4.out.trans (hbp.mono (Nat.le_of_lt (Nat.lt_of_succ_lt hp2)))
          clear hn0 hgp hbp GC4 GX4 GR4 GP4 B4 x0 x1 x2 x3 x4 x5 y0 y1 y2 y3 y4 y5
          have x0 := cell_row (j := 0) GX5.out rfl
          have x1 := cell_row (j := 1) GX5.out rfl
          have x2 := cell_row (j := 2) GX5.out rfl
          have x3 := cell_row (j := 3) GX5.out rfl
          have x4 := cell_row (j := 4) GX5.out rfl
          have x5 := cell_row (j := 5) GX5.out rfl
          have y0 : (w5).frozen? ⟨g + 1, 0, none⟩ = false := frozen_of_row _ _ _ _ _ GX5.out
          have y1 : (w5).frozen? ⟨g + 1, 1, none⟩ = false := frozen_of_row _ _ _ _ _ GX5.out
          have y2 : (w5).frozen? ⟨g + 1, 2, none⟩ = false := frozen_of_row _ _ _ _ _ GX5.out
          have y3 : (w5).frozen? ⟨g + 1, 3, none⟩ = false := frozen_of_row _ _ _ _ _ GX5.out
          have y4 : (w5).frozen? ⟨g + 1, 4, none⟩ = false := frozen_of_row _ _ _ _ _ GX5.out
          have y5 : (w5).frozen? ⟨g + 1, 5, none⟩ = false := frozen_of_row _ _ _ _ _ GX5.out
          have L := Lib.hid (leafW (lab := lb') (o := 19) (z := 0) (vs := vs) HLK.out lsz hoz.out hnv HV0.out hjb.out hv0 HN0.out)
          go_wp2_with fail
          have GP6 : Hid ((w5.setCell ⟨g + 1, 4, none⟩ (.int .u32 (v0 : Int))).heap[p]? = _) := (heap_setCell_other _ _ _ _ (Nat.ne_of_gt hp2)).trans GP5.out
          have GX6 : Hid ((w5.setCell ⟨g + 1, 4, none⟩ (.int .u32 (v0 : Int))).heap[g + 1]? = some (.cells #[.string lb', .int .u8 19, .int .u8 0, .int .u16 0, .int .u32 (v0 : Int), .string ⟨#[]⟩] 34 (0, 0))) := heap_setCell_same _ _ _ _ _ _ GX5.out
          have GR6 : Hid ((w5.setCell ⟨g + 1, 4, none⟩ (.int .u32 (v0 : Int))).heap[g]? = some (.cells #[.string ⟨#[]⟩, .int .u8 0, .int .u8 0, .int .u16 0, .int .u32 0, .string ⟨#[]⟩] 34 (0, 0))) := (heap_setCell_other _ _ _ _ (Nat.ne_of_lt (Nat.lt_succ_self g))).trans GR5.out
          have B6 : Hid (Below g w (w5.setCell ⟨g + 1, 4, none⟩ (.int .u32 (v0 : Int)))) := B5.out.setCell (p := ⟨g + 1, 4, none⟩) (Nat.le_succ g) _
          generalize w5.setCell ⟨g + 1, 4, none⟩ (.int .u32 (v0 : Int)) = w6 at *
          clear GX5 GR5 B5 x0 x1 x2 x3 x4 x5 y0 y1 y2 y3 y4 y5
          have x0 := cell_row (j := 0) GX6.out rfl
          have x1 := cell_row (j := 1) GX6.out rfl
          have x2 := cell_row (j := 2) GX6.out rfl
          have x3 := cell_row (j := 3) GX6.out rfl
          have x4 := cell_row (j := 4) GX6.out rfl
          have x5 := cell_row (j := 5) GX6.out rfl
          have y0 : (w6).frozen? ⟨g + 1, 0, none⟩ = false := frozen_of_row _ _ _ _ _ GX6.out
          have y1 : (w6).frozen? ⟨g + 1, 1, none⟩ = false := frozen_of_row _ _ _ _ _ GX6.out
          have y2 : (w6).frozen? ⟨g + 1, 2, none⟩ = false := frozen_of_row _ _ _ _ _ GX6.out
          have y3 : (w6).frozen? ⟨g + 1, 3, none⟩ = false := frozen_of_row _ _ _ _ _ GX6.out
          have y4 : (w6).frozen? ⟨g + 1, 4, none⟩ = false := frozen_of_row _ _ _ _ _ GX6.out
          have y5 : (w6).frozen? ⟨g + 1, 5, none⟩ = false := frozen_of_row _ _ _ _ _ GX6.out
          clear GP5
          go_meet
          case rel => exact ⟨okV s0 4294967295 true, ⟨lb', ⟨19, 0, 0, v0⟩, eS⟩, GP6.out, fun h1 h2 => HLS.trans (L.out.yes h1 h2), fun h => by rw [HLS]; exact L.out.no h, L.out.ok, GX6.out, GR6.out, B6.out⟩
      · skip
        have hz0 : z = 0 := by rcases HOZ.out with ⟨h, _⟩ | ⟨_, _, h⟩ <;> omega
        subst hz0
        have hoz : Hid (OZ 20 0) := by show OZ _ _; unfold OZ; omega
        obtain rfl : nv = 1 := by rw [← hwn]; rfl
        obtain ⟨s0, hv0⟩ : ∃ v0, v0 = vs.getD 0 eS := ⟨_, rfl⟩
        have HSV0 : Hid (s0.size ≤ 1000000) := by rw [hv0]; exact HSN.out 0 (by omega)
        have u1 : w3.cell? ⟨b', off' + 1, none⟩ = some (.string s0) := by rw [hv0]; exact HCN.out w3 B3.out 0 (by omega)
        have HV0 := Lib.hid hv0.symm
        clear hv0
        go_wp2_with fail
        refine (HWD.out _).mono ?_
        rintro e w' ⟨rfl, hw⟩
        obtain rfl : w3 = w' := hw.symm
        go_wp2_with fail
        refine (jumps_any 20 w3).mono ?_
        rintro e w' ⟨rfl, hw⟩
        obtain rfl : w3 = w' := hw.symm
        rw [show jumpB 20 = true from rfl]
        go_wp2_with fail
        refine (label_any s0 w3 (by have := HSV0.out; omega)).mono ?_
        rintro e w4 ⟨rfl, hb4⟩
        have GX4 := Lib.hid (kept GX3.out hb4)
        have GR4 := Lib.hid (kept GR3.out hb4)
        have GP4 := Lib.hid (kept GP3.out hb4)
        have B4 : Hid (Below g w w4) := B3.out.trans (hb4.mono (by have := heap_lt GX3.out; omega))
        have u1 : w4.cell? ⟨b', off' + 1, none⟩ = some (.string s0) := by rw [← HV0.out]; exact HCN.out w4 B4.out 0 (by omega)
        clear hb4 GX3 GR3 GP3 B3 x0 x1 x2 x3 x4 x5 y0 y1 y2 y3 y4 y5
        have x0 := cell_row (j := 0) GX4.out rfl
        have x1 := cell_row (j := 1) GX4.out rfl
        have x2 := cell_row (j := 2) GX4.out rfl
        have x3 := cell_row (j := 3) GX4.out rfl
        have x4 := cell_row (j := 4) GX4.out rfl
        have x5 := cell_row (j := 5) GX4.out rfl
        have y0 : (w4).frozen? ⟨g + 1, 0, none⟩ = false := frozen_of_row _ _ _ _ _ GX4.out
        have y1 : (w4).frozen? ⟨g + 1, 1, none⟩ = false := frozen_of_row _ _ _ _ _ GX4.out
        have y2 : (w4).frozen? ⟨g + 1, 2, none⟩ = false := frozen_of_row _ _ _ _ _ GX4.out
        have y3 : (w4).frozen? ⟨g + 1, 3, none⟩ = false := frozen_of_row _ _ _ _ _ GX4.out
        have y4 : (w4).frozen? ⟨g + 1, 4, none⟩ = false := frozen_of_row _ _ _ _ _ GX4.out
        have y5 : (w4).frozen? ⟨g + 1, 5, none⟩ = false := frozen_of_row _ _ _ _ _ GX4.out
        cases hl0 : labelB s0 with
        | true =>
          have L := Lib.hid (leafJ (lab := lb') (o := 20) (vs := vs) HLK.out lsz (by omega) hnv HV0.out hl0 HSV0.out)
          go_wp2_with fail
          have GP6 : Hid ((w4.setCell ⟨g + 1, 5, none⟩ (.string s0)).heap[p]? = _) := (heap_setCell_other _ _ _ _ (Nat.ne_of_gt hp2)).trans GP4.out
          have GX6 : Hid ((w4.setCell ⟨g + 1, 5, none⟩ (.string s0)).heap[g + 1]? = some (.cells #[.string lb', .int .u8 20, .int .u8 0, .int .u16 0, .int .u32 0, .string s0] 34 (0, 0))) := heap_setCell_same _ _ _ _ _ _ GX4.out
          have GR6 : Hid ((w4.setCell ⟨g + 1, 5, none⟩ (.string s0)).heap[g]? = some (.cells #[.string ⟨#[]⟩, .int .u8 0, .int .u8 0, .int .u16 0, .int .u32 0, .string ⟨#[]⟩] 34 (0, 0))) := (heap_setCell_other _ _ _ _ (Nat.ne_of_lt (Nat.lt_succ_self g))).trans GR4.out
          have B6 : Hid (Below g w (w4.setCell ⟨g + 1, 5, none⟩ (.string s0))) := B4.out.setCell (p := ⟨g + 1, 5, none⟩) (Nat.le_succ g) _
          generalize w4.setCell ⟨g + 1, 5, none⟩ (.string s0) = w6 at *
          clear GX4 GR4 B4 x0 x1 x2 x3 x4 x5 y0 y1 y2 y3 y4 y5
          have x0 := cell_row (j := 0) GX6.out rfl
          have x1 := cell_row (j := 1) GX6.out rfl
          have x2 := cell_row (j := 2) GX6.out rfl
          have x3 := cell_row (j := 3) GX6.out rfl
          have x4 := cell_row (j := 4) GX6.out rfl
          have x5 := cell_row (j := 5) GX6.out rfl
          have y0 : (w6).frozen? ⟨g + 1, 0, none⟩ = false := frozen_of_row _ _ _ _ _ GX6.out
          have y1 : (w6).frozen? ⟨g + 1, 1, none⟩ = false := frozen_of_row _ _ _ _ _ GX6.out
          have y2 : (w6).frozen? ⟨g + 1, 2, none⟩ = false := frozen_of_row _ _ _ _ _ GX6.out
          have y3 : (w6).frozen? ⟨g + 1, 3, none⟩ = false := frozen_of_row _ _ _ _ _ GX6.out
          have y4 : (w6).frozen? ⟨g + 1, 4, none⟩ = false := frozen_of_row _ _ _ _ _ GX6.out
          have y5 : (w6).frozen? ⟨g + 1, 5, none⟩ = false := frozen_of_row _ _ _ _ _ GX6.out
          clear GP4
          go_meet
          case rel => exact ⟨true, ⟨lb', ⟨20, 0, 0, 0⟩, s0⟩, GP6.out, fun h1 h2 => HLS.trans (L.out.yes h1 h2), fun h => by rw [HLS]; exact L.out.no h, L.out.ok, GX6.out, GR6.out, B6.out⟩
        | false =>
          have hjb := Lib.hid (show (jumpB 20 && labelB s0) = false by rw [hl0]; rfl)
          go_wp2_with fail
          refine (jumps_any 20 w4).mono ?_
          rintro e w' ⟨rfl, hw⟩
          obtain rfl : w4 = w' := hw.symm
          rw [show jumpB 20 = true from rfl]
          go_wp2_with fail
          have GC4 := cell_row (j := 0) GP4.out rfl
          refine (lval_any s0 4294967295 p 4294967295 true w4 (by have := HSV0.out; omega) (HEW.out _ B4.out) (HTW.out _ B4.out) GP4.out rfl (by decide)).mono ?_
          rintro e w5 ⟨v0, hv0, rfl, hn0, hgp, hbp⟩
          have HN0 := Lib.hid hn0
          have GX5 := Lib.hid ((hbp.block _ hp2).trans GX4.out)
          have GR5 := Lib.hid ((hbp.block _ (Nat.lt_of_succ_lt hp2)).trans GR4.out)
          have GP5 := Lib.hid hgp
          have B5 : Hid (Below g w w5) := B4.out.trans (hbp.mono (Nat.le_of_lt (Nat.lt_of_succ_lt hp2)))
          clear hn0 hgp hbp GC4 GX4 GR4 GP4 B4 x0 x1 x2 x3 x4 x5 y0 y1 y2 y3 y4 y5
          have x0 := cell_row (j := 0) GX5.out rfl
          have x1 := cell_row (j := 1) GX5.out rfl
          have x2 := cell_row (j := 2) GX5.out rfl
          have x3 := cell_row (j := 3) GX5.out rfl
          have x4 := cell_row (j := 4) GX5.out rfl
          have x5 := cell_row (j := 5) GX5.out rfl
          have y0 : (w5).frozen? ⟨g + 1, 0, none⟩ = false := frozen_of_row _ _ _ _ _ GX5.out
          have y1 : (w5).frozen? ⟨g + 1, 1, none⟩ = false := frozen_of_row _ _ _ _ _ GX5.out
          have y2 : (w5).frozen? ⟨g + 1, 2, none⟩ = false := frozen_of_row _ _ _ _ _ GX5.out
          have y3 : (w5).frozen? ⟨g + 1, 3, none⟩ = false := frozen_of_row _ _ _ _ _ GX5.out
          have y4 : (w5).frozen? ⟨g + 1, 4, none⟩ = false := frozen_of_row _ _ _ _ _ GX5.out
          have y5 : (w5).frozen? ⟨g + 1, 5, none⟩ = false := frozen_of_row _ _ _ _ _ GX5.out
          have L := Lib.hid (leafW (lab := lb') (o := 20) (z := 0) (vs := vs) HLK.out lsz hoz.out hnv HV0.out hjb.out hv0 HN0.out)
          go_wp2_with fail
          have GP6 : Hid ((w5.setCell ⟨g + 1, 4, none⟩ (.int .u32 (v0 : Int))).heap[p]? = _) := (heap_setCell_other _ _ _ _ (Nat.ne_of_gt hp2)).trans GP5.out
          have GX6 : Hid ((w5.setCell ⟨g + 1, 4, none⟩ (.int .u32 (v0 : Int))).heap[g + 1]? = some (.cells #[.string lb', .int .u8 20, .int .u8 0, .int .u16 0, .int .u32 (v0 : Int), .string ⟨#[]⟩] 34 (0, 0))) := heap_setCell_same _ _ _ _ _ _ GX5.out
          have GR6 : Hid ((w5.setCell ⟨g + 1, 4, none⟩ (.int .u32 (v0 : Int))).heap[g]? = some (.cells #[.string ⟨#[]⟩, .int .u8 0, .int .u8 0, .int .u16 0, .int .u32 0, .string ⟨#[]⟩] 34 (0, 0))) := (heap_setCell_other _ _ _ _ (Nat.ne_of_lt (Nat.lt_succ_self g))).trans GR5.out
          have B6 : Hid (Below g w (w5.setCell ⟨g + 1, 4, none⟩ (.int .u32 (v0 : Int)))) := B5.out.setCell (p := ⟨g + 1, 4, none⟩) (Nat.le_succ g) _
          generalize w5.setCell ⟨g + 1, 4, none⟩ (.int .u32 (v0 : Int)) = w6 at *
          clear GX5 GR5 B5 x0 x1 x2 x3 x4 x5 y0 y1 y2 y3 y4 y5
          have x0 := cell_row (j := 0) GX6.out rfl
          have x1 := cell_row (j := 1) GX6.out rfl
          have x2 := cell_row (j := 2) GX6.out rfl
          have x3 := cell_row (j := 3) GX6.out rfl
          have x4 := cell_row (j := 4) GX6.out rfl
          have x5 := cell_row (j := 5) GX6.out rfl
          have y0 : (w6).frozen? ⟨g + 1, 0, none⟩ = false := frozen_of_row _ _ _ _ _ GX6.out
          have y1 : (w6).frozen? ⟨g + 1, 1, none⟩ = false := frozen_of_row _ _ _ _ _ GX6.out
          have y2 : (w6).frozen? ⟨g + 1, 2, none⟩ = false := frozen_of_row _ _ _ _ _ GX6.out
          have y3 : (w6).frozen? ⟨g + 1, 3, none⟩ = false := frozen_of_row _ _ _ _ _ GX6.out
          have y4 : (w6).frozen? ⟨g + 1, 4, none⟩ = false := frozen_of_row _ _ _ _ _ GX6.out
          have y5 : (w6).frozen? ⟨g + 1, 5, none⟩ = false := frozen_of_row _ _ _ _ _ GX6.out
          clear GP5
          go_meet
          case rel => exact ⟨okV s0 4294967295 true, ⟨lb', ⟨20, 0, 0, v0⟩, eS⟩, GP6.out, fun h1 h2 => HLS.trans (L.out.yes h1 h2), fun h => by rw [HLS]; exact L.out.no h, L.out.ok, GX6.out, GR6.out, B6.out⟩
      · skip
        have hz0 : z = 0 := by rcases HOZ.out with ⟨h, _⟩ | ⟨_, _, h⟩ <;> omega
        subst hz0
        obtain rfl : nv = 1 := by rw [← hwn]; rfl
        obtain ⟨s0, hv0⟩ : ∃ v0, v0 = vs.getD 0 eS := ⟨_, rfl⟩
        have HSV0 : Hid (s0.size ≤ 1000000) := by rw [hv0]; exact HSN.out 0 (by omega)
        have u1 : w3.cell? ⟨b', off' + 1, none⟩ = some (.string s0) := by rw [hv0]; exact HCN.out w3 B3.out 0 (by omega)
        have HV0 := Lib.hid hv0.symm
        clear hv0
        go_wp2_with fail
        refine (HWD.out _).mono ?_
        rintro e w' ⟨rfl, hw⟩
        obtain rfl : w3 = w' := hw.symm
        go_wp2_with fail
        refine (jumps_any 21 w3).mono ?_
        rintro e w' ⟨rfl, hw⟩
        obtain rfl : w3 = w' := hw.symm
        rw [show jumpB 21 = false from rfl]
        go_wp2_with fail
        refine (jumps_any 21 w3).mono ?_
        rintro e w' ⟨rfl, hw⟩
        obtain rfl : w3 = w' := hw.symm
        rw [show jumpB 21 = false from rfl]
        go_wp2_with fail
        have GC3 := cell_row (j := 0) GP3.out rfl
        refine (lval_any s0 255 p 255 true w3 (by have := HSV0.out; omega) (HEW.out _ B3.out) (HTW.out _ B3.out) GP3.out rfl (by decide)).mono ?_
        rintro e w5 ⟨v0, hv0, rfl, hn0, hgp, hbp⟩
        have HN0 := Lib.hid hn0
        have GX5 := Lib.hid ((hbp.block _ hp2).trans GX3.out)
        have GR5 := Lib.hid ((hbp.block _ (Nat.lt_of_succ_lt hp2)).trans GR3.out)
        have GP5 := Lib.hid hgp
        have B5 : Hid (Below g w w5) := B3.out.trans (hbp.mono (Nat.le_of_lt (Nat.lt_of_succ_lt hp2)))
        clear hn0 hgp hbp GC3 GX3 GR3 GP3 B3 x0 x1 x2 x3 x4 x5 y0 y1 y2 y3 y4 y5
        have x0 := cell_row (j := 0) GX5.out rfl
        have x1 := cell_row (j := 1) GX5.out rfl
        have x2 := cell_row (j := 2) GX5.out rfl
        have x3 := cell_row (j := 3) GX5.out rfl
        have x4 := cell_row (j := 4) GX5.out rfl
        have x5 := cell_row (j := 5) GX5.out rfl
        have y0 : (w5).frozen? ⟨g + 1, 0, none⟩ = false := frozen_of_row _ _ _ _ _ GX5.out
        have y1 : (w5).frozen? ⟨g + 1, 1, none⟩ = false := frozen_of_row _ _ _ _ _ GX5.out
        have y2 : (w5).frozen? ⟨g + 1, 2, none⟩ = false := frozen_of_row _ _ _ _ _ GX5.out
        have y3 : (w5).frozen? ⟨g + 1, 3, none⟩ = false := frozen_of_row _ _ _ _ _ GX5.out
        have y4 : (w5).frozen? ⟨g + 1, 4, none⟩ = false := frozen_of_row _ _ _ _ _ GX5.out
        have y5 : (w5).frozen? ⟨g + 1, 5, none⟩ = false := frozen_of_row _ _ _ _ _ GX5.out
        go_upto_region 16 with fail
        have GP6 : Hid ((w5.setCell ⟨g + 1, 2, none⟩ (.int .u8 ((v0 : Int) % 256))).heap[p]? = _) := (heap_setCell_other _ _ _ _ (Nat.ne_of_gt hp2)).trans GP5.out
        have GX6 : Hid ((w5.setCell ⟨g + 1, 2, none⟩ (.int .u8 ((v0 : Int) % 256))).heap[g + 1]? = some (.cells #[.string lb', .int .u8 21, .int .u8 ((v0 : Int) % 256), .int .u16 0, .int .u32 0, .string ⟨#[]⟩] 34 (0, 0))) := heap_setCell_same _ _ _ _ _ _ GX5.out
        have GR6 : Hid ((w5.setCell ⟨g + 1, 2, none⟩ (.int .u8 ((v0 : Int) % 256))).heap[g]? = some (.cells #[.string ⟨#[]⟩, .int .u8 0, .int .u8 0, .int .u16 0, .int .u32 0, .string ⟨#[]⟩] 34 (0, 0))) := (heap_setCell_other _ _ _ _ (Nat.ne_of_lt (Nat.lt_succ_self g))).trans GR5.out
        have B6 : Hid (Below g w (w5.setCell ⟨g + 1, 2, none⟩ (.int .u8 ((v0 : Int) % 256)))) := B5.out.setCell (p := ⟨g + 1, 2, none⟩) (Nat.le_succ g) _
        generalize w5.setCell ⟨g + 1, 2, none⟩ (.int .u8 ((v0 : Int) % 256)) = w6 at *
        clear GX5 GR5 B5 x0 x1 x2 x3 x4 x5 y0 y1 y2 y3 y4 y5
        have x0 := cell_row (j := 0) GX6.out rfl
        have x1 := cell_row (j := 1) GX6.out rfl
        have x2 := cell_row (j := 2) GX6.out rfl
        have x3 := cell_row (j := 3) GX6.out rfl
        have x4 := cell_row (j := 4) GX6.out rfl
        have x5 := cell_row (j := 5) GX6.out rfl
        have y0 : (w6).frozen? ⟨g + 1, 0, none⟩ = false := frozen_of_row _ _ _ _ _ GX6.out
        have y1 : (w6).frozen? ⟨g + 1, 1, none⟩ = false := frozen_of_row _ _ _ _ _ GX6.out
        have y2 : (w6).frozen? ⟨g + 1, 2, none⟩ = false := frozen_of_row _ _ _ _ _ GX6.out
        have y3 : (w6).frozen? ⟨g + 1, 3, none⟩ = false := frozen_of_row _ _ _ _ _ GX6.out
        have y4 : (w6).frozen? ⟨g + 1, 4, none⟩ = false := frozen_of_row _ _ _ _ _ GX6.out
        have y5 : (w6).frozen? ⟨g + 1, 5, none⟩ = false := frozen_of_row _ _ _ _ _ GX6.out
        clear GP5
        have L := Lib.hid (leafS (lab := lb') (o := 21) (vs := vs) HLK.out lsz (by omega) hnv HV0.out HN0.out)
        go_wp2_with fail
        refine (HWD.out _).mono ?_
        rintro e w' ⟨rfl, hw⟩
        obtain rfl : w6 = w' := hw.symm
        go_wp2_with fail
        go_meet
        case rel => exact ⟨okV s0 255 true, ⟨lb', ⟨21, v0 % 256, 0, 0⟩, eS⟩, GP6.out, fun h1 h2 => HLS.trans (L.out.yes h1 h2), fun h => by rw [HLS]; exact L.out.no h, L.out.ok, GX6.out, GR6.out, B6.out⟩
      · skip
        have hz0 : z = 0 := by rcases HOZ.out with ⟨h, _⟩ | ⟨_, _, h⟩ <;> omega
        subst hz0
        obtain rfl : nv = 1 := by rw [← hwn]; rfl
        obtain ⟨s0, hv0⟩ : ∃ v0, v0 = vs.getD 0 eS := ⟨_, rfl⟩
        have HSV0 : Hid (s0.size ≤ 1000000) := by rw [hv0]; exact HSN.out 0 (by omega)
        have u1 : w3.cell? ⟨b', off' + 1, none⟩ = some (.string s0) := by rw [hv0]; exact HCN.out w3 B3.out 0 (by omega)
        have HV0 := Lib.hid hv0.symm
        clear hv0
        go_wp2_with fail
        refine (HWD.out _).mono ?_
        rintro e w' ⟨rfl, hw⟩
        obtain rfl : w3 = w' := hw.symm
        go_wp2_with fail
        refine (jumps_any 22 w3).mono ?_
        rintro e w' ⟨rfl, hw⟩
        obtain rfl : w3 = w' := hw.symm
        rw [show jumpB 22 = false from rfl]
        go_wp2_with fail
        refine (jumps_any 22 w3).mono ?_
        rintro e w' ⟨rfl, hw⟩
        obtain rfl : w3 = w' := hw.symm
        rw [show jumpB 22 = false from rfl]
        go_wp2_with fail
        have GC3 := cell_row (j := 0) GP3.out rfl
        refine (lval_any s0 255 p 255 true w3 (by have := HSV0.out; omega) (HEW.out _ B3.out) (HTW.out _ B3.out) GP3.out rfl (by decide)).mono ?_
        rintro e w5 ⟨v0, hv0, rfl, hn0, hgp, hbp⟩
        have HN0 := Lib.hid hn0
        have GX5 := Lib.hid ((hbp.block _ hp2).trans GX3.out)
        have GR5 := Lib.hid ((hbp.block _ (Nat.lt_of_succ_lt hp2)).trans GR3.out)
        have GP5 := Lib.hid hgp
        have B5 : Hid (Below g w w5) := B3.out.trans (hbp.mono (Nat.le_of_lt (Nat.lt_of_succ_lt hp2)))
        clear hn0 hgp hbp GC3 GX3 GR3 GP3 B3 x0 x1 x2 x3 x4 x5 y0 y1 y2 y3 y4 y5
        have x0 := cell_row (j := 0) GX5.out rfl
        have x1 := cell_row (j := 1) GX5.out rfl
        have x2 := cell_row (j := 2) GX5.out rfl
        have x3 := cell_row (j := 3) GX5.out rfl
        have x4 := cell_row (j := 4) GX5.out rfl
        have x5 := cell_row (j := 5) GX5.out rfl
        have y0 : (w5).frozen? ⟨g + 1, 0, none⟩ = false := frozen_of_row _ _ _ _ _ GX5.out
        have y1 : (w5).frozen? ⟨g + 1, 1, none⟩ = false := frozen_of_row _ _ _ _ _ GX5.out
        have y2 : (w5).frozen? ⟨g + 1, 2, none⟩ = false := frozen_of_row _ _ _ _ _ GX5.out
        have y3 : (w5).frozen? ⟨g + 1, 3, none⟩ = false := frozen_of_row _ _ _ _ _ GX5.out
        have y4 : (w5).frozen? ⟨g + 1, 4, none⟩ = false := frozen_of_row _ _ _ _ _ GX5.out
        have y5 : (w5).frozen? ⟨g + 1, 5, none⟩ = false := frozen_of_row _ _ _ _ _ GX5.out
        go_upto_region 16 with fail
        have GP6 : Hid ((w5.setCell ⟨g + 1, 2, none⟩ (.int .u8 ((v0 : Int) % 256))).heap[p]? = _) := (heap_setCell_other _ _ _ _ (Nat.ne_of_gt hp2)).trans GP5.out
        have GX6 : Hid ((w5.setCell ⟨g + 1, 2, none⟩ (.int .u8 ((v0 : Int) % 256))).heap[g + 1]? = some (.cells #[.string lb', .int .u8 22, .int .u8 ((v0 : Int) % 256), .int .u16 0, .int .u32 0, .string ⟨#[]⟩] 34 (0, 0))) := heap_setCell_same _ _ _ _ _ _ GX5.out
        have GR6 : Hid ((w5.setCell ⟨g + 1, 2, none⟩ (.int .u8 ((v0 : Int) % 256))).heap[g]? = some (.cells #[.string ⟨#[]⟩, .int .u8 0, .int .u8 0, .int .u16 0, .int .u32 0, .string ⟨#[]⟩] 34 (0, 0))) := (heap_setCell_other _ _ _ _ (Nat.ne_of_lt (Nat.lt_succ_self g))).trans GR5.out
        have B6 : Hid (Below g w (w5.setCell ⟨g + 1, 2, none⟩ (.int .u8 ((v0 : Int) % 256)))) := B5.out.setCell (p := ⟨g + 1, 2, none⟩) (Nat.le_succ g) _
        generalize w5.setCell ⟨g + 1, 2, none⟩ (.int .u8 ((v0 : Int) % 256)) = w6 at *
        clear GX5 GR5 B5 x0 x1 x2 x3 x4 x5 y0 y1 y2 y3 y4 y5
        have x0 := cell_row (j := 0) GX6.out rfl
        have x1 := cell_row (j := 1) GX6.out rfl
        have x2 := cell_row (j := 2) GX6.out rfl
        have x3 := cell_row (j := 3) GX6.out rfl
        have x4 := cell_row (j := 4) GX6.out rfl
        have x5 := cell_row (j := 5) GX6.out rfl
        have y0 : (w6).frozen? ⟨g + 1, 0, none⟩ = false := frozen_of_row _ _ _ _ _ GX6.out
        have y1 : (w6).frozen? ⟨g + 1, 1, none⟩ = false := frozen_of_row _ _ _ _ _ GX6.out
        have y2 : (w6).frozen? ⟨g + 1, 2, none⟩ = false := frozen_of_row _ _ _ _ _ GX6.out
        have y3 : (w6).frozen? ⟨g + 1, 3, none⟩ = false := frozen_of_row _ _ _ _ _ GX6.out
        have y4 : (w6).frozen? ⟨g + 1, 4, none⟩ = false := frozen_of_row _ _ _ _ _ GX6.out
        have y5 : (w6).frozen? ⟨g + 1, 5, none⟩ = false := frozen_of_row _ _ _ _ _ GX6.out
        clear GP5
        have L := Lib.hid (leafS (lab := lb') (o := 22) (vs := vs) HLK.out lsz (by omega) hnv HV0.out HN0.out)
        go_wp2_with fail
        refine (HWD.out _).mono ?_
        rintro e w' ⟨rfl, hw⟩
        obtain rfl : w6 = w' := hw.symm
        go_wp2_with fail
        go_meet
        case rel => exact ⟨okV s0 255 true, ⟨lb', ⟨22, v0 % 256, 0, 0⟩, eS⟩, GP6.out, fun h1 h2 => HLS.trans (L.out.yes h1 h2), fun h => by rw [HLS]; exact L.out.no h, L.out.ok, GX6.out, GR6.out, B6.out⟩
      · skip
        have hz0 : z = 0 := by rcases HOZ.out with ⟨h, _⟩ | ⟨_, _, h⟩ <;> omega
        subst hz0
        obtain rfl : nv = 1 := by rw [← hwn]; rfl
        obtain ⟨s0, hv0⟩ : ∃ v0, v0 = vs.getD 0 eS := ⟨_, rfl⟩
        have HSV0 : Hid (s0.size ≤ 1000000) := by rw [hv0]; exact HSN.out 0 (by omega)
        have u1 : w3.cell? ⟨b', off' + 1, none⟩ = some (.string s0) := by rw [hv0]; exact HCN.out w3 B3.out 0 (by omega)
        have HV0 := Lib.hid hv0.symm
        clear hv0
        go_wp2_with fail
        refine (HWD.out _).mono ?_
        rintro e w' ⟨rfl, hw⟩
        obtain rfl : w3 = w' := hw.symm
        go_wp2_with fail
        refine (jumps_any 24 w3).mono ?_
        rintro e w' ⟨rfl, hw⟩
        obtain rfl : w3 = w' := hw.symm
        rw [show jumpB 24 = false from rfl]
        go_wp2_with fail
        refine (jumps_any 24 w3).mono ?_
        rintro e w' ⟨rfl, hw⟩
        obtain rfl : w3 = w' := hw.symm
        rw [show jumpB 24 = false from rfl]
        go_wp2_with fail
        have GC3 := cell_row (j := 0) GP3.out rfl
        refine (lval_any s0 255 p 255 true w3 (by have := HSV0.out; omega) (HEW.out _ B3.out) (HTW.out _ B3.out) GP3.out rfl (by decide)).mono ?_
        rintro e w5 ⟨v0, hv0, rfl, hn0, hgp, hbp⟩
        have HN0 := Lib.hid hn0
        have GX5 := Lib.hid ((hbp.block _ hp2).trans GX3.out)
        have GR5 := Lib.hid ((hbp.block _ (Nat.lt_of_succ_lt hp2)).trans GR3.out)
        have GP5 := Lib.hid hgp
        have B5 : Hid (Below g w w5) := B3.out.trans (hbp.mono (Nat.le_of_lt (Nat.lt_of_succ_lt hp2)))
        clear hn0 hgp hbp GC3 GX3 GR3 GP3 B3 x0 x1 x2 x3 x4 x5 y0 y1 y2 y3 y4 y5
        have x0 := cell_row (j := 0) GX5.out rfl
        have x1 := cell_row (j := 1) GX5.out rfl
        have x2 := cell_row (j := 2) GX5.out rfl
        have x3 := cell_row (j := 3) GX5.out rfl
        have x4 := cell_row (j := 4) GX5.out rfl
        have x5 := cell_row (j := 5) GX5.out rfl
        have y0 : (w5).frozen? ⟨g + 1, 0, none⟩ = false := frozen_of_row _ _ _ _ _ GX5.out
        have y1 : (w5).frozen? ⟨g + 1, 1, none⟩ = false := frozen_of_row _ _ _ _ _ GX5.out
        have y2 : (w5).frozen? ⟨g + 1, 2, none⟩ = false := frozen_of_row _ _ _ _ _ GX5.out
        have y3 : (w5).frozen? ⟨g + 1, 3, none⟩ = false := frozen_of_row _ _ _ _ _ GX5.out
        have y4 : (w5).frozen? ⟨g + 1, 4, none⟩ = false := frozen_of_row _ _ _ _ _ GX5.out
        have y5 : (w5).frozen? ⟨g + 1, 5, none⟩ = false := frozen_of_row _ _ _ _ _ GX5.out
        go_upto_region 16 with fail
        have GP6 : Hid ((w5.setCell ⟨g + 1, 2, none⟩ (.int .u8 ((v0 : Int) % 256))).heap[p]? = _) := (heap_setCell_other _ _ _ _ (Nat.ne_of_gt hp2)).trans GP5.out
        have GX6 : Hid ((w5.setCell ⟨g + 1, 2, none⟩ (.int .u8 ((v0 : Int) % 256))).heap[g + 1]? = some (.cells #[.string lb', .int .u8 24, .int .u8 ((v0 : Int) % 256), .int .u16 0, .int .u32 0, .string ⟨#[]⟩] 34 (0, 0))) := heap_setCell_same _ _ _ _ _ _ GX5.out
        have GR6 : Hid ((w5.setCell ⟨g + 1, 2, none⟩ (.int .u8 ((v0 : Int) % 256))).heap[g]? = some (.cells #[.string ⟨#[]⟩, .int .u8 0, .int .u8 0, .int .u16 0, .int .u32 0, .string ⟨#[]⟩] 34 (0, 0))) := (heap_setCell_other _ _ _ _ (Nat.ne_of_lt (Nat.lt_succ_self g))).trans GR5.out
        have B6 : Hid (Below g w (w5.setCell ⟨g + 1, 2, none⟩ (.int .u8 ((v0 : Int) % 256)))) := B5.out.setCell (p := ⟨g + 1, 2, none⟩) (Nat.le_succ g) _
        generalize w5.setCell ⟨g + 1, 2, none⟩ (.int .u8 ((v0 : Int) % 256)) = w6 at *
        clear GX5 GR5 B5 x0 x1 x2 x3 x4 x5 y0 y1 y2 y3 y4 y5
        have x0 := cell_row (j := 0) GX6.out rfl
        have x1 := cell_row (j := 1) GX6.out rfl
        have x2 := cell_row (j := 2) GX6.out rfl
        have x3 := cell_row (j := 3) GX6.out rfl
        have x4 := cell_row (j := 4) GX6.out rfl
        have x5 := cell_row (j := 5) GX6.out rfl
        have y0 : (w6).frozen? ⟨g + 1, 0, none⟩ = false := frozen_of_row _ _ _ _ _ GX6.out
        have y1 : (w6).frozen? ⟨g + 1, 1, none⟩ = false := frozen_of_row _ _ _ _ _ GX6.out
        have y2 : (w6).frozen? ⟨g + 1, 2, none⟩ = false := frozen_of_row _ _ _ _ _ GX6.out
        have y3 : (w6).frozen? ⟨g + 1, 3, none⟩ = false := frozen_of_row _ _ _ _ _ GX6.out
        have y4 : (w6).frozen? ⟨g + 1, 4, none⟩ = false := frozen_of_row _ _ _ _ _ GX6.out
        have y5 : (w6).frozen? ⟨g + 1, 5, none⟩ = false := frozen_of_row _ _ _ _ _ GX6.out
        clear GP5
        have L := Lib.hid (leafS (lab := lb') (o := 24) (vs := vs) HLK.out lsz (by omega) hnv HV0.out HN0.out)
        go_wp2_with fail
        refine (HWD.out _).mono ?_
        rintro e w' ⟨rfl, hw⟩
        obtain rfl : w6 = w' := hw.symm
        go_wp2_with fail
        go_meet
        case rel => exact ⟨okV s0 255 true, ⟨lb', ⟨24, v0 % 256, 0, 0⟩, eS⟩, GP6.out, fun h1 h2 => HLS.trans (L.out.yes h1 h2), fun h => by rw [HLS]; exact L.out.no h, L.out.ok, GX6.out, GR6.out, B6.out⟩
      · skip
        have hz0 : z = 0 := by rcases HOZ.out with ⟨h, _⟩ | ⟨_, _, h⟩ <;> omega
        subst hz0
        obtain rfl : nv = 1 := by rw [← hwn]; rfl
        obtain ⟨s0, hv0⟩ : ∃ v0, v0 = vs.getD 0 eS := ⟨_, rfl⟩
        have HSV0 : Hid (s0.size ≤ 1000000) := by rw [hv0]; exact HSN.out 0 (by omega)
        have u1 : w3.cell? ⟨b', off' + 1, none⟩ = some (.string s0) := by rw [hv0]; exact HCN.out w3 B3.out 0 (by omega)
        have HV0 := Lib.hid hv0.symm
        clear hv0
        go_wp2_with fail
        refine (HWD.out _).mono ?_
        rintro e w' ⟨rfl, hw⟩
        obtain rfl : w3 = w' := hw.symm
        go_wp2_with fail
        refine (jumps_any 26 w3).mono ?_
        rintro e w' ⟨rfl, hw⟩
        obtain rfl : w3 = w' := hw.symm
        rw [show jumpB 26 = false from rfl]
        go_wp2_with fail
        refine (jumps_any 26 w3).mono ?_
        rintro e w' ⟨rfl, hw⟩
        obtain rfl : w3 = w' := hw.symm
        rw [show jumpB 26 = false from rfl]
        go_wp2_with fail
        have GC3 := cell_row (j := 0) GP3.out rfl
        refine (lval_any s0 255 p 255 true w3 (by have := HSV0.out; omega) (HEW.out _ B3.out) (HTW.out _ B3.out) GP3.out rfl (by decide)).mono ?_
        rintro e w5 ⟨v0, hv0, rfl, hn0, hgp, hbp⟩
        have HN0 := Lib.hid hn0
        have GX5 := Lib.hid ((hbp.block _ hp2).trans GX3.out)
        have GR5 := Lib.hid ((hbp.block _ (Nat.lt_of_succ_lt hp2)).trans GR3.out)
        have GP5 := Lib.hid hgp
        have B5 : Hid (Below g w w5) := B3.out.trans (hbp.mono (Nat.le_of_lt (Nat.lt_of_succ_lt hp2)))
        clear hn0 hgp hbp GC3 GX3 GR3 GP3 B3 x0 x1 x2 x3 x4 x5 y0 y1 y2 y3 y4 y5
        have x0 := cell_row (j := 0) GX5.out rfl
        have x1 := cell_row (j := 1) GX5.out rfl
        have x2 := cell_row (j := 2) GX5.out rfl
        have x3 := cell_row (j := 3) GX5.out rfl
        have x4 := cell_row (j := 4) GX5.out rfl
        have x5 := cell_row (j := 5) GX5.out rfl
        have y0 : (w5).frozen? ⟨g + 1, 0, none⟩ = false := frozen_of_row _ _ _ _ _ GX5.out
        have y1 : (w5).frozen? ⟨g + 1, 1, none⟩ = false := frozen_of_row _ _ _ _ _ GX5.out
        have y2 : (w5).frozen? ⟨g + 1, 2, none⟩ = false := frozen_of_row _ _ _ _ _ GX5.out
        have y3 : (w5).frozen? ⟨g + 1, 3, none⟩ = false := frozen_of_row _ _ _ _ _ GX5.out
        have y4 : (w5).frozen? ⟨g + 1, 4, none⟩ = false := frozen_of_row _ _ _ _ _ GX5.out
        have y5 : (w5).frozen? ⟨g + 1, 5, none⟩ = false := frozen_of_row _ _ _ _ _ GX5.out
        go_upto_region 16 with fail
        have GP6 : Hid ((w5.setCell ⟨g + 1, 2, none⟩ (.int .u8 ((v0 : Int) % 256))).heap[p]? = _) := (heap_setCell_other _ _ _ _ (Nat.ne_of_gt hp2)).trans GP5.out
        have GX6 : Hid ((w5.setCell ⟨g + 1, 2, none⟩ (.int .u8 ((v0 : Int) % 256))).heap[g + 1]? = some (.cells #[.string lb', .int .u8 26, .int .u8 ((v0 : Int) % 256), .int .u16 0, .int .u32 0, .string ⟨#[]⟩] 34 (0, 0))) := heap_setCell_same _ _ _ _ _ _ GX5.out
        have GR6 : Hid ((w5.setCell ⟨g + 1, 2, none⟩ (.int .u8 ((v0 : Int) % 256))).heap[g]? = some (.cells #[.string ⟨#[]⟩, .int .u8 0, .int .u8 0, .int .u16 0, .int .u32 0, .string ⟨#[]⟩] 34 (0, 0))) := (heap_setCell_other _ _ _ _ (Nat.ne_of_lt (Nat.lt_succ_self g))).trans GR5.out
        have B6 : Hid (Below g w (w5.setCell ⟨g + 1, 2, none⟩ (.int .u8 ((v0 : Int) % 256)))) := B5.out.setCell (p := ⟨g + 1, 2, none⟩) (Nat.le_succ g) _
        generalize w5.setCell ⟨g + 1, 2, none⟩ (.int .u8 ((v0 : Int) % 256)) = w6 at *
        clear GX5 GR5 B5 x0 x1 x2 x3 x4 x5 y0 y1 y2 y3 y4 y5
        have x0 := cell_row (j := 0) GX6.out rfl
        have x1 := cell_row (j := 1) GX6.out rfl
        have x2 := cell_row (j := 2) GX6.out rfl
        have x3 := cell_row (j := 3) GX6.out rfl
        have x4 := cell_row (j := 4) GX6.out rfl
        have x5 := cell_row (j := 5) GX6.out rfl
        have y0 : (w6).frozen? ⟨g + 1, 0, none⟩ = false := frozen_of_row _ _ _ _ _ GX6.out
        have y1 : (w6).frozen? ⟨g + 1, 1, none⟩ = false := frozen_of_row _ _ _ _ _ GX6.out
        have y2 : (w6).frozen? ⟨g + 1, 2, none⟩ = false := frozen_of_row _ _ _ _ _ GX6.out
        have y3 : (w6).frozen? ⟨g + 1, 3, none⟩ = false := frozen_of_row _ _ _ _ _ GX6.out
        have y4 : (w6).frozen? ⟨g + 1, 4, none⟩ = false := frozen_of_row _ _ _ _ _ GX6.out
        have y5 : (w6).frozen? ⟨g + 1, 5, none⟩ = false := frozen_of_row _ _ _ _ _ GX6.out
        clear GP5
        have L := Lib.hid (leafS (lab := lb') (o := 26) (vs := vs) HLK.out lsz (by omega) hnv HV0.out HN0.out)
        go_wp2_with fail
        refine (HWD.out _).mono ?_
        rintro e w' ⟨rfl, hw⟩
        obtain rfl : w6 = w' := hw.symm
        go_wp2_with fail
        go_meet
        case rel => exact ⟨okV s0 255 true, ⟨lb', ⟨26, v0 % 256, 0, 0⟩, eS⟩, GP6.out, fun h1 h2 => HLS.trans (L.out.yes h1 h2), fun h => by rw [HLS]; exact L.out.no h, L.out.ok, GX6.out, GR6.out, B6.out⟩
    case rest =>
      obtain ⟨ob, y, hgp, HR⟩ := hcut
      clear GX3 GR3 GP3 B3 HSN HCN HOZ HWD HLK HEW HTW HLS
      obtain ⟨hyes, hno, hok, hgx, hgr, hbb⟩ := HR
      have GX0 := Lib.hid hgx; have GR0 := Lib.hid hgr; have B0 := Lib.hid hbb; have GP0 := Lib.hid hgp
      have HY := Lib.hid hyes; have HNO := Lib.hid hno
      have HM := Lib.hid (fun W => alm_any y W hok)
      unfold AL.val AL.cells at HM
      clear hgx hgr hbb hgp hyes hno hok
      obtain ⟨w0, rfl⟩ : ∃ x, x = wc := ⟨wc, rfl⟩
      generalize hym : y.may = ym at *
      obtain ⟨yl, ⟨yo, ya, yb, yc⟩, yt⟩ := y
      simp only at GX0 HM
      have HYM := Lib.hid hym
      clear hym
      have q0 := cell_row (j := 0) GP0.out rfl
      have x0 := cell_row (j := 0) GX0.out rfl
      have x1 := cell_row (j := 1) GX0.out rfl
      have x2 := cell_row (j := 2) GX0.out rfl
      have x3 := cell_row (j := 3) GX0.out rfl
      have x4 := cell_row (j := 4) GX0.out rfl
      have x5 := cell_row (j := 5) GX0.out rfl
      have y0 : (w0).frozen? ⟨g + 1, 0, none⟩ = false := frozen_of_row _ _ _ _ _ GX0.out
      have y1 : (w0).frozen? ⟨g + 1, 1, none⟩ = false := frozen_of_row _ _ _ _ _ GX0.out
      have y2 : (w0).frozen? ⟨g + 1, 2, none⟩ = false := frozen_of_row _ _ _ _ _ GX0.out
      have y3 : (w0).frozen? ⟨g + 1, 3, none⟩ = false := frozen_of_row _ _ _ _ _ GX0.out
      have y4 : (w0).frozen? ⟨g + 1, 4, none⟩ = false := frozen_of_row _ _ _ _ _ GX0.out
      have y5 : (w0).frozen? ⟨g + 1, 5, none⟩ = false := frozen_of_row _ _ _ _ _ GX0.out
      cases ob with
      | false =>
        have h42 := HNO.out rfl
        have r0 := cell_row (j := 0) GR0.out rfl
        have r1 := cell_row (j := 1) GR0.out rfl
        have r2 := cell_row (j := 2) GR0.out rfl
        have r3 := cell_row (j := 3) GR0.out rfl
        have r4 := cell_row (j := 4) GR0.out rfl
        have r5 := cell_row (j := 5) GR0.out rfl
        have z0 : (w0).frozen? ⟨g, 0, none⟩ = false := frozen_of_row _ _ _ _ _ GR0.out
        have z1 : (w0).frozen? ⟨g, 1, none⟩ = false := frozen_of_row _ _ _ _ _ GR0.out
        have z2 : (w0).frozen? ⟨g, 2, none⟩ = false := frozen_of_row _ _ _ _ _ GR0.out
        have z3 : (w0).frozen? ⟨g, 3, none⟩ = false := frozen_of_row _ _ _ _ _ GR0.out
        have z4 : (w0).frozen? ⟨g, 4, none⟩ = false := frozen_of_row _ _ _ _ _ GR0.out
        have z5 : (w0).frozen? ⟨g, 5, none⟩ = false := frozen_of_row _ _ _ _ _ GR0.out
        go_wp2_with fail
        try simp only [Exit.inBlock, Exit.then]
        refine bodyPost_ret (results_cell_tmp rfl _ _ g 34 #[.string yl, .int .u8 (yo : Int), .int .u8 (ya : Int), .int .u16 (yb : Int), .int .u32 (yc : Int), .string yt] (0, 0) _ _ rfl rfl (set6_heap GR0.out rfl _ _ _ _ _ _) Tryz.underlying34 rfl infoA) rfl ?_
        exact ⟨⟨⟨⟨yl, ⟨yo, ya, yb, yc⟩, yt⟩, by rw [h42]; rfl, fun h => by rw [h42] at h; cases h⟩⟩, by rw [hgw]; exact set6_below B0.out (Nat.le_refl g) _ _ _ _ _ _⟩
      | true =>
        have HY2 := Lib.hid (HY.out rfl)
        clear HY
        go_wp2_with fail
        refine (HM.out w0).mono ?_
        clear q0
        rintro e w1 ⟨rfl, hb1⟩
        have GX1 := Lib.hid (kept GX0.out hb1)
        have GR1 := Lib.hid (kept GR0.out hb1)
        have B1 : Hid (Below g w w1) := B0.out.trans (hb1.mono (by have h := B0.out.size; omega))
        clear hb1 GX0 GR0 B0 x0 x1 x2 x3 x4 x5 y0 y1 y2 y3 y4 y5
        have x0 := cell_row (j := 0) GX1.out rfl
        have x1 := cell_row (j := 1) GX1.out rfl
        have x2 := cell_row (j := 2) GX1.out rfl
        have x3 := cell_row (j := 3) GX1.out rfl
        have x4 := cell_row (j := 4) GX1.out rfl
        have x5 := cell_row (j := 5) GX1.out rfl
        have y0 : (w1).frozen? ⟨g + 1, 0, none⟩ = false := frozen_of_row _ _ _ _ _ GX1.out
        have y1 : (w1).frozen? ⟨g + 1, 1, none⟩ = false := frozen_of_row _ _ _ _ _ GX1.out
        have y2 : (w1).frozen? ⟨g + 1, 2, none⟩ = false := frozen_of_row _ _ _ _ _ GX1.out
        have y3 : (w1).frozen? ⟨g + 1, 3, none⟩ = false := frozen_of_row _ _ _ _ _ GX1.out
        have y4 : (w1).frozen? ⟨g + 1, 4, none⟩ = false := frozen_of_row _ _ _ _ _ GX1.out
        have y5 : (w1).frozen? ⟨g + 1, 5, none⟩ = false := frozen_of_row _ _ _ _ _ GX1.out
        cases ym with
        | false =>
          have h42 := HNO.out rfl
          have r0 := cell_row (j := 0) GR1.out rfl
          have r1 := cell_row (j := 1) GR1.out rfl
          have r2 := cell_row (j := 2) GR1.out rfl
          have r3 := cell_row (j := 3) GR1.out rfl
          have r4 := cell_row (j := 4) GR1.out rfl
          have r5 := cell_row (j := 5) GR1.out rfl
          have z0 : (w1).frozen? ⟨g, 0, none⟩ = false := frozen_of_row _ _ _ _ _ GR1.out
          have z1 : (w1).frozen? ⟨g, 1, none⟩ = false := frozen_of_row _ _ _ _ _ GR1.out
          have z2 : (w1).frozen? ⟨g, 2, none⟩ = false := frozen_of_row _ _ _ _ _ GR1.out
          have z3 : (w1).frozen? ⟨g, 3, none⟩ = false := frozen_of_row _ _ _ _ _ GR1.out
          have z4 : (w1).frozen? ⟨g, 4, none⟩ = false := frozen_of_row _ _ _ _ _ GR1.out
          have z5 : (w1).frozen? ⟨g, 5, none⟩ = false := frozen_of_row _ _ _ _ _ GR1.out
          go_wp2_with fail
          try simp only [Exit.inBlock, Exit.then]
          refine bodyPost_ret (results_cell_tmp rfl _ _ g 34 #[.string yl, .int .u8 (yo : Int), .int .u8 (ya : Int), .int .u16 (yb : Int), .int .u32 (yc : Int), .string yt] (0, 0) _ _ rfl rfl (set6_heap GR1.out rfl _ _ _ _ _ _) Tryz.underlying34 rfl infoA) rfl ?_
          exact ⟨⟨⟨⟨yl, ⟨yo, ya, yb, yc⟩, yt⟩, by rw [h42]; rfl, fun h => by rw [h42] at h; cases h⟩⟩, by rw [hgw]; exact set6_below B1.out (Nat.le_refl g) _ _ _ _ _ _⟩
        | true =>
          have hl := HY2.out rfl
          have r0 := cell_row (j := 0) GR1.out rfl
          have r1 := cell_row (j := 1) GR1.out rfl
          have r2 := cell_row (j := 2) GR1.out rfl
          have r3 := cell_row (j := 3) GR1.out rfl
          have r4 := cell_row (j := 4) GR1.out rfl
          have r5 := cell_row (j := 5) GR1.out rfl
          have z0 : (w1).frozen? ⟨g, 0, none⟩ = false := frozen_of_row _ _ _ _ _ GR1.out
          have z1 : (w1).frozen? ⟨g, 1, none⟩ = false := frozen_of_row _ _ _ _ _ GR1.out
          have z2 : (w1).frozen? ⟨g, 2, none⟩ = false := frozen_of_row _ _ _ _ _ GR1.out
          have z3 : (w1).frozen? ⟨g, 3, none⟩ = false := frozen_of_row _ _ _ _ _ GR1.out
          have z4 : (w1).frozen? ⟨g, 4, none⟩ = false := frozen_of_row _ _ _ _ _ GR1.out
          have z5 : (w1).frozen? ⟨g, 5, none⟩ = false := frozen_of_row _ _ _ _ _ GR1.out
          go_wp2_with fail
          try simp only [Exit.inBlock, Exit.then]
          refine bodyPost_ret (results_cell_tmp rfl _ _ g 34 #[.string yl, .int .u8 (yo : Int), .int .u8 (ya : Int), .int .u16 (yb : Int), .int .u32 (yc : Int), .string yt] (0, 0) _ _ rfl rfl (set6_heap GR1.out rfl _ _ _ _ _ _) Tryz.underlying34 rfl infoA) rfl ?_
          exact ⟨⟨⟨⟨yl, ⟨yo, ya, yb, yc⟩, yt⟩, by rw [hl]; rfl, fun h => by rw [hl]⟩⟩, by rw [hgw]; exact set6_below B1.out (Nat.le_refl g) _ _ _ _ _ _⟩
end Go.Proofs.YtalmgjeiopjhlaaGreatDoor
