/- A timetable: how it lies; may it be, the document's answers. -/
import Derived.Test.YtdlpgoackmgdkaaGreatDoorArPN
import Derived.Test.YtdlpgoackmgdkaaGreatDoorSet
import Derived.Deep.OwnRows
import Derived.BigQuiet
import Derived.BigRegion
import Derived.Test.YtdlpgoackmgdkaaGreatDoorZAsmA
namespace Go.Proofs.YtdlpgoackmgdkaaGreatDoor
open Go.RowKit Go.Shelf
set_option linter.unusedVariables false
set_option linter.unusedSimpArgs false
def plC (x : PL) : List Value := [.int .u32 (x.fr : Int), .int .i64 x.rt]
def pl0 : PL := ⟨0, 0⟩
def plV (ls : List PL) (i j : Nat) : Value := (plC (ls.getD i pl0)).getD j undef
def PlsAt (w : World) (a : Option Addr) (ls : List PL) : Prop := SliceN w a ls.length 2 (plV ls)
def plVs (ls : List PL) : List Value := ls.flatMap plC
structure PL.ok (x : PL) : Prop where
  fr : x.fr < 4294967296
  lo : -9223372036854775808 ≤ x.rt
  hi : x.rt ≤ 9223372036854775807
theorem PlsAt.below {w w' : World} {a : Option Addr} {ls : List PL} (h : PlsAt w a ls) (hb : Below w.heap.size w w') : PlsAt w' a ls := SliceN.below h hb
theorem PlsAt.at {w : World} {a : Option Addr} {ls : List PL} (h : PlsAt w a ls) (hp : 0 < ls.length) : ∃ b off, a = some ⟨b, off, none⟩ ∧ b < w.heap.size ∧ ∀ i, i < ls.length → ∀ j, j < 2 → w.cell? ⟨b, off + i * 2 + j, none⟩ = some (plV ls i j) := SliceN.at h hp
theorem pls_of_own {w : World} {base : Nat} {e : TypeId} {v : Value} {ls : List PL} (h : w.ownsRow base e 2 v ls.length (plVs ls)) : ∃ a c, v = .slice a ls.length c ∧ ls.length ≤ c ∧ c ≤ maxLen ∧ PlsAt w a ls := slice_of_own (f := plC) (sz := 2) (fun _ => rfl) pl0 h
def lineOk (x : PL) : Bool := !decide (x.fr = 4294967295) && decide (0 ≤ x.rt) && decide (x.rt ≤ 65534)
def mayB (base : Nat) (port : Int) (ls : List PL) : Bool := (List.range ls.length).all (fun i => lineOk (ls.getD i pl0)) && decide (ls.length ≤ 500) && decide (0 ≤ port) && decide (port < 16) && decide (base ≤ 4294967292)
theorem mayB_bad {base : Nat} {port : Int} {ls : List PL} {k : Nat} (hk : k < ls.length) (h : lineOk (ls.getD k pl0) = false) : mayB base port ls = false := by
  unfold mayB
  have : (List.range ls.length).all (fun i => lineOk (ls.getD i pl0)) = false := by
    rw [List.all_eq_false]; exact ⟨k, List.mem_range.2 hk, by rw [h]; decide⟩
  rw [this]; rfl
theorem mayB_rest {base : Nat} {port : Int} {ls : List PL} (h : ∀ j, j < ls.length → lineOk (ls.getD j pl0) = true) : mayB base port ls = (decide (ls.length ≤ 500) && decide (0 ≤ port) && decide (port < 16) && decide (base ≤ 4294967292)) := by
  unfold mayB
  have : (List.range ls.length).all (fun i => lineOk (ls.getD i pl0)) = true := List.all_eq_true.2 fun i hi => h i (List.mem_range.1 hi)
  rw [this]; simp
theorem mayB_ok {base : Nat} {port : Int} {ls : List PL} (h : mayB base port ls = true) (hok : ∀ i, i < ls.length → (ls.getD i pl0).ok) : PlanOk base port.toNat ls ∧ (port.toNat : Int) = port := by
  unfold mayB at h
  simp only [Bool.and_eq_true, decide_eq_true_eq, List.all_eq_true, List.mem_range] at h
  obtain ⟨⟨⟨⟨h1, h2⟩, h3⟩, h4⟩, h5⟩ := h
  refine ⟨⟨h5, by omega, h2, fun x hx => ?_⟩, by omega⟩
  obtain ⟨i, hi, rfl⟩ := List.mem_iff_getElem.1 hx
  have e : ls.getD i pl0 = ls[i] := by rw [List.getD_eq_getElem?_getD, List.getElem?_eq_getElem hi]; rfl
  have := h1 i hi
  have h6 := (hok i hi).fr
  rw [e] at this h6
  unfold lineOk at this
  simp at this
  exact ⟨by omega, this.1.2, this.2⟩
set_option maxRecDepth 100000 in
set_option maxHeartbeats 4000000 in
theorem amay_any (ls : List PL) (a : Option Addr) (c base : Nat) (port : Int) (w : World) (hA : PlsAt w a ls) (hok : ∀ i, i < ls.length → (ls.getD i pl0).ok) (hm : ls.length ≤ 9223372036854775807) (hb0 : base < 4294967296) :
    Calls Tryz.prog 65 #[.agg #[.int .u32 (base : Int), .int .i64 port, .slice a ls.length c]] w fun e w' => e = .returned (.bool (mayB base port ls)) ∧ Below w.heap.size w w' := by
  have HA := Lib.hid hA; have HOK := Lib.hid hok
  have HBAD := Lib.hid (fun k hk => mayB_bad (base := base) (port := port) (ls := ls) (k := k) hk)
  have HRE := Lib.hid (fun h => mayB_rest (base := base) (port := port) (ls := ls) h)
  generalize mayB base port ls = res at *
  obtain ⟨n, hn⟩ : ∃ n, n = ls.length := ⟨_, rfl⟩
  rw [← hn] at hm ⊢
  have HN := Lib.hid hn
  obtain ⟨w1, hw1⟩ : ∃ x, x = w.alloc (.cells #[.int .u32 (base : Int), .int .i64 port, .slice a n c] 25) := ⟨_, rfl⟩
  have B1 : Hid (Below w.heap.size w w1) := by rw [hw1]; exact alloc_below _ _
  have K1 : Hid (w1.heap[w.heap.size]? = some (.cells #[.int .u32 (base : Int), .int .i64 port, .slice a n c] 25 (0, 0))) := by rw [hw1]; exact heap_alloc_new _ _
  have HW1 := Lib.hid hw1
  obtain ⟨g, hg⟩ : ∃ g, g = w.heap.size := ⟨_, rfl⟩
  rw [← hg] at K1
  have HG := Lib.hid hg
  clear hA hok hn hw1 hg
  have p0 := cell_row (j := 0) K1.out rfl
  have p1 := cell_row (j := 1) K1.out rfl
  have p2 := cell_row (j := 2) K1.out rfl
  go_enter Tryz.func65, Tryz.ntmps65
  go_upto_region 1 with fail
  rw [← HW1.out, ← HG.out]
  clear HW1
  go_wp2_with fail
  clear p0 p1 p2
  go_loopw [8] (fun i wr => ∃ k : Nat, k ≤ n ∧ i = .int .i64 (k : Int) ∧ Hid (∀ j, j < k → lineOk (ls.getD j pl0) = true) ∧ Hid (Below w1.heap.size w1 wr)) (fun i _ => n - (intOf i).toNat)
  case atStart => exact ⟨0, Nat.zero_le _, rfl, fun j hj => absurd hj (by omega), Below.refl _ _⟩
  case round =>
    obtain ⟨k, hk, rfl, HS, BB⟩ := hrel
    rcases Nat.lt_or_ge k n with hk2 | hk2
    case inr =>
      obtain rfl : k = n := by omega
      have t2 : decide ((k : Int) < (k : Int)) = false := by simp
      have hgl := heap_lt K1.out
      have q0 := (BB.out.cell (p := ⟨g, 0, none⟩) hgl).trans (cell_row (j := 0) K1.out rfl)
      have q1 := (BB.out.cell (p := ⟨g, 1, none⟩) hgl).trans (cell_row (j := 1) K1.out rfl)
      have q2 := (BB.out.cell (p := ⟨g, 2, none⟩) hgl).trans (cell_row (j := 2) K1.out rfl)
      have HF0 := Lib.hid (HRE.out (fun j hj => HS.out j (by rw [HN.out]; exact hj)))
      have B2 : Hid (Below w.heap.size w wr) := B1.out.trans (BB.out.mono B1.out.size)
      rw [← HN.out] at HF0
      clear HS HBAD HRE hgl
      by_cases h1 : k ≤ 500
      case neg =>
        have t3 : decide ((k : Int) ≤ 500) = false := decide_eq_false (by omega)
        have HF : Hid (res = false) := by show _ = _; rw [HF0.out, decide_eq_false h1]; rfl
        go_wp2_with fail
        go_ret
        exact ⟨by rw [HF.out]; rfl, B2.out⟩
      have t3 : decide ((k : Int) ≤ 500) = true := decide_eq_true (by omega)
      by_cases h2 : 0 ≤ port
      case neg =>
        have t4 : decide (0 ≤ port) = false := decide_eq_false (by omega)
        have HF : Hid (res = false) := by show _ = _; rw [HF0.out, decide_eq_false h2, Bool.and_false]; rfl
        go_wp2_with fail
        go_ret
        exact ⟨by rw [HF.out]; rfl, B2.out⟩
      have t4 : decide (0 ≤ port) = true := decide_eq_true (by omega)
      by_cases h3 : port < 16
      case neg =>
        have t5 : decide (port < 16) = false := decide_eq_false (by omega)
        have HF : Hid (res = false) := by show _ = _; rw [HF0.out, decide_eq_false h3, Bool.and_false]; rfl
        go_wp2_with fail
        go_ret
        exact ⟨by rw [HF.out]; rfl, B2.out⟩
      have t5 : decide (port < 16) = true := decide_eq_true (by omega)
      by_cases h4 : base ≤ 4294967292
      case neg =>
        have t6 : decide ((base : Int) ≤ 4294967292) = false := decide_eq_false (by omega)
        have HF : Hid (res = false) := by show _ = _; rw [HF0.out, decide_eq_false h4, Bool.and_false]
        go_wp2_with fail
        go_ret
        exact ⟨by rw [HF.out]; rfl, B2.out⟩
      have t6 : decide ((base : Int) ≤ 4294967292) = true := decide_eq_true (by omega)
      have HF : Hid (res = true) := by show _ = _; rw [HF0.out, decide_eq_true h4, decide_eq_true h3, decide_eq_true h2, decide_eq_true h1]; rfl
      go_wp2_with fail
      go_ret
      exact ⟨by rw [HF.out]; rfl, B2.out⟩
    have t2 : decide ((k : Int) < (n : Int)) = true := decide_eq_true (by omega)
    obtain ⟨b, off, rfl, hb, hc⟩ := HA.out.at (by rw [← HN.out]; omega)
    have B2 : Hid (Below w.heap.size w wr) := B1.out.trans (BB.out.mono B1.out.size)
    have hN := HN.out
    have a0 : wr.cell? ⟨b, off + k * 2, none⟩ = some (.int .u32 ((ls.getD k pl0).fr : Int)) := (B2.out.cell hb).trans (hc k (by omega) 0 (by omega))
    have a1 : wr.cell? ⟨b, off + k * 2 + 1, none⟩ = some (.int .i64 (ls.getD k pl0).rt) := (B2.out.cell hb).trans (hc k (by omega) 1 (by omega))
    clear hc hN
    have HBK := Lib.hid (HBAD.out k (by rw [← HN.out]; exact hk2))
    have HNX : Hid (lineOk (ls.getD k pl0) = true → ∀ j, j < k + 1 → lineOk (ls.getD j pl0) = true) := fun h j hj => by
      rcases Nat.lt_succ_iff_lt_or_eq.1 hj with h1 | rfl
      · exact HS.out j h1
      · exact h
    have HLO : Hid (lineOk (ls.getD k pl0) = (!decide ((ls.getD k pl0).fr = 4294967295) && decide (0 ≤ (ls.getD k pl0).rt) && decide ((ls.getD k pl0).rt ≤ 65534))) := rfl
    generalize ls.getD k pl0 = x at *
    obtain ⟨fr, rt⟩ := x
    simp only at a0 a1 HLO
    clear HS
    by_cases e1 : fr = 4294967295
    case pos =>
      have t3 : ((fr : Int) == 4294967295) = true := beq_iff_eq.2 (by omega)
      have HF : Hid (res = false) := HBK.out (by rw [HLO.out, decide_eq_true e1]; rfl)
      go_wp2_with fail
      go_ret
      exact ⟨by rw [HF.out]; rfl, B2.out.alloc B2.out.size _⟩
    have t3 : ((fr : Int) == 4294967295) = false := beq_eq_false_iff_ne.2 (by omega)
    by_cases e2 : 0 ≤ rt
    case neg =>
      have t4 : decide (rt < 0) = true := decide_eq_true (by omega)
      have HF : Hid (res = false) := HBK.out (by rw [HLO.out, decide_eq_false e2, Bool.and_false]; rfl)
      go_wp2_with fail
      go_ret
      exact ⟨by rw [HF.out]; rfl, B2.out.alloc B2.out.size _⟩
    have t4 : decide (rt < 0) = false := decide_eq_false (by omega)
    by_cases e3 : rt ≤ 65534
    case neg =>
      have t5 : decide (65534 < rt) = true := decide_eq_true (by omega)
      have HF : Hid (res = false) := HBK.out (by rw [HLO.out, decide_eq_false e3, Bool.and_false])
      go_wp2_with fail
      go_ret
      exact ⟨by rw [HF.out]; rfl, B2.out.alloc B2.out.size _⟩
    have t5 : decide (65534 < rt) = false := decide_eq_false (by omega)
    have HS2 := Lib.hid (HNX.out (by rw [HLO.out, decide_eq_true e2, decide_eq_true e3, decide_eq_false e1]; rfl))
    have BB2 : Hid (Below w1.heap.size w1 (wr.alloc (.cells #[.int .u32 (fr : Int), .int .i64 rt] 71))) := BB.out.alloc BB.out.size _
    clear HBK HNX HLO
    go_wp2_with fail
    refine ⟨⟨k + 1, by omega, by go_num, HS2, BB2⟩, ?_⟩
    simp [intOf]; omega
end Go.Proofs.YtdlpgoackmgdkaaGreatDoor
/- The document's words on timetables: May, Due, Sent, More; lines in its type. -/
namespace Go.Proofs.YtdlpgoackmgdkaaGreatDoor
open Go.RowKit Go.Shelf
set_option linter.unusedVariables false
set_option linter.unusedSimpArgs false
/-- The place of the last line of a frame; -1: there is none. -/
def dueK (ls : List PL) (f : Nat) : Nat → Int
  | 0 => -1
  | k + 1 => if (ls.getD k pl0).fr = f then (k : Int) else dueK ls f k
def dueI (ls : List PL) (f : Nat) : Int := dueK ls f ls.length
theorem dueK_range (ls : List PL) (f : Nat) : ∀ k, -1 ≤ dueK ls f k ∧ dueK ls f k < (k : Int)
  | 0 => by simp [dueK]
  | k + 1 => by
    have := dueK_range ls f k
    unfold dueK
    split
    · omega
    · omega
set_option maxRecDepth 100000 in
set_option maxHeartbeats 4000000 in
theorem rdue_any (ls : List PL) (a : Option Addr) (c f : Nat) (w : World) (hA : PlsAt w a ls) (hm : ls.length ≤ 9223372036854775807) :
    Calls Tryz.prog 52 #[.slice a ls.length c, .int .u32 (f : Int)] w fun e w' => e = .returned (.int .i64 (dueI ls f)) ∧ Below w.heap.size w w' := by
  have HA := Lib.hid hA
  unfold dueI
  obtain ⟨n, hn⟩ : ∃ n, n = ls.length := ⟨_, rfl⟩
  rw [← hn] at hm ⊢
  have HN := Lib.hid hn
  clear hA hn
  go_enter Tryz.func52, Tryz.ntmps52
  go_wp2_with fail
  go_loopw [5, 6] (fun at_ i wr => ∃ k : Nat, k ≤ n ∧ i = .int .i64 (k : Int) ∧ at_ = .int .i64 (dueK ls f k) ∧ Hid (Below w.heap.size w wr)) (fun _ i _ => n - (intOf i).toNat)
  case atStart => exact ⟨0, Nat.zero_le _, rfl, rfl, Below.refl _ _⟩
  case round =>
    obtain ⟨k, hk, rfl, rfl, BB⟩ := hrel
    rcases Nat.lt_or_ge k n with hk2 | hk2
    case inr =>
      obtain rfl : k = n := by omega
      have t2 : decide ((k : Int) < (k : Int)) = false := by simp
      go_wp2_with fail
      go_ret
      exact ⟨rfl, BB.out⟩
    have t2 : decide ((k : Int) < (n : Int)) = true := decide_eq_true (by omega)
    obtain ⟨b, off, rfl, hb, hc⟩ := HA.out.at (by rw [← HN.out]; omega)
    have hN := HN.out
    have a0 : wr.cell? ⟨b, off + k * 2, none⟩ = some (.int .u32 ((ls.getD k pl0).fr : Int)) := (BB.out.cell hb).trans (hc k (by omega) 0 (by omega))
    have a1 : wr.cell? ⟨b, off + k * 2 + 1, none⟩ = some (.int .i64 (ls.getD k pl0).rt) := (BB.out.cell hb).trans (hc k (by omega) 1 (by omega))
    clear hc hN
    have HD : Hid (dueK ls f (k + 1) = if (ls.getD k pl0).fr = f then (k : Int) else dueK ls f k) := rfl
    generalize ls.getD k pl0 = x at *
    obtain ⟨fr, rt⟩ := x
    simp only at a0 a1 HD
    obtain ⟨dv, hdv⟩ : ∃ dv, dv = dueK ls f k := ⟨_, rfl⟩
    rw [← hdv] at HD ⊢
    have HDV := Lib.hid hdv
    clear hdv
    by_cases e : fr = f
    · have t3 : ((fr : Int) == (f : Int)) = true := beq_iff_eq.2 (by omega)
      have HE : Hid (dueK ls f (k + 1) = (k : Int)) := by show _ = _; rw [HD.out, if_pos e]
      clear HD
      go_wp2_with fail
      refine ⟨⟨k + 1, by omega, by go_num, by rw [HE.out], BB⟩, ?_⟩
      simp [intOf]; omega
    · have t3 : ((fr : Int) == (f : Int)) = false := beq_eq_false_iff_ne.2 (by omega)
      have HE : Hid (dueK ls f (k + 1) = dv) := by show _ = _; rw [HD.out, if_neg e]
      clear HD
      go_wp2_with fail
      refine ⟨⟨k + 1, by omega, by go_num, by rw [HE.out], BB⟩, ?_⟩
      simp [intOf]; omega
def sentN (ls : List PL) (f : Nat) : Nat := if dueI ls f < 0 then 0 else ((ls.getD (dueI ls f).toNat pl0).rt.toNat + 1)
set_option maxRecDepth 100000 in
set_option maxHeartbeats 4000000 in
theorem rsent_any (ls : List PL) (a : Option Addr) (c f : Nat) (w : World) (hA : PlsAt w a ls) (hm : ls.length ≤ 9223372036854775807) (hl : ∀ i, i < ls.length → 0 ≤ (ls.getD i pl0).rt ∧ (ls.getD i pl0).rt ≤ 65534) :
    Calls Tryz.prog 17 #[.slice a ls.length c, .int .u32 (f : Int)] w fun e w' => e = .returned (.int .u32 (sentN ls f : Int)) ∧ Below w.heap.size w w' := by
  have hr := dueK_range ls f ls.length
  have HD := Lib.hid (rdue_any ls a c f w hA hm)
  have HA := Lib.hid hA
  have HS : Hid (sentN ls f = if dueI ls f < 0 then 0 else ((ls.getD (dueI ls f).toNat pl0).rt.toNat + 1)) := rfl
  have hr : -1 ≤ dueI ls f ∧ dueI ls f < (ls.length : Int) := hr
  generalize dueI ls f = d at *
  obtain ⟨n, hn⟩ : ∃ n, n = ls.length := ⟨_, rfl⟩
  have HL := Lib.hid hl
  rw [← hn] at hm hr HD ⊢
  have HN := Lib.hid hn
  clear hA hn hl
  generalize sentN ls f = s at *
  go_enter Tryz.func17, Tryz.ntmps17
  go_wp2_with fail
  refine HD.out.mono ?_
  rintro e w2 ⟨rfl, hb2⟩
  have B2 := Lib.hid hb2
  clear HD hb2
  by_cases hd : d < 0
  · have t1 : decide (d < 0) = true := decide_eq_true hd
    have HF : Hid (s = 0) := by show _ = _; rw [HS.out, if_pos hd]
    go_wp2_with fail
    go_ret
    exact ⟨by rw [HF.out]; rfl, B2.out⟩
  · have t1 : decide (d < 0) = false := decide_eq_false hd
    obtain ⟨k, rfl⟩ : ∃ k : Nat, d = (k : Int) := ⟨d.toNat, by omega⟩
    have hkn : k < n := by omega
    have i0 : (0 : Int) ≤ (k : Int) := by omega
    have i1 : (k : Int) < (n : Int) := by omega
    obtain ⟨b, off, rfl, hb, hc⟩ := HA.out.at (by rw [← HN.out]; omega)
    have hN := HN.out
    have a1 : w2.cell? ⟨b, off + k * 2 + 1, none⟩ = some (.int .i64 (ls.getD k pl0).rt) := (B2.out.cell hb).trans (hc k (by omega) 1 (by omega))
    have hlk := HL.out k (by omega)
    have HF : Hid (s = (ls.getD k pl0).rt.toNat + 1) := by show _ = _; rw [HS.out, if_neg hd, Int.toNat_natCast]
    clear hc hN HS
    generalize (ls.getD k pl0).rt = rt at *
    obtain ⟨r, rfl⟩ : ∃ r : Nat, rt = (r : Int) := ⟨rt.toNat, by omega⟩
    have hr2 : r ≤ 65534 := by omega
    go_wp2_with fail
    go_ret
    exact ⟨by rw [HF.out]; go_num, B2.out⟩
theorem rmore_any (f : Nat) (w : World) (hf : f < 4294967296) : Calls Tryz.prog 19 #[.int .u32 (f : Int)] w fun e w' => e = .returned (.int .u32 (moreN f : Int)) ∧ w' = w := by
  have HM : Hid (moreN f = if f = 4294967295 then f else f + 1) := rfl
  generalize moreN f = m at *
  by_cases h : f = 4294967295
  · have t1 : ((f : Int) == 4294967295) = true := beq_iff_eq.2 (by omega)
    have HF : Hid (m = f) := by show _ = _; rw [HM.out, if_pos h]
    clear HM
    go_enter Tryz.func19, Tryz.ntmps19
    go_wp2_with fail
    go_ret
    exact ⟨by rw [HF.out]; rfl, rfl⟩
  · have t1 : ((f : Int) == 4294967295) = false := beq_eq_false_iff_ne.2 (by omega)
    have HF : Hid (m = f + 1) := by show _ = _; rw [HM.out, if_neg h]
    clear HM
    go_enter Tryz.func19, Tryz.ntmps19
    go_wp2_with fail
    go_ret
    exact ⟨by rw [HF.out]; go_num, rfl⟩
end Go.Proofs.YtdlpgoackmgdkaaGreatDoor
/- The document's May, lines in its type; digits, push. -/
namespace Go.Proofs.YtdlpgoackmgdkaaGreatDoor
open Go.RowKit Go.Shelf
set_option linter.unusedVariables false
set_option linter.unusedSimpArgs false
theorem dig_any (u : Nat) (h : u < 18446744073709551616) (w : World) (hT : TabW w) : Calls Tryz.prog 67 #[.int .u64 (u : Int)] w fun e w' => e = .returned (.string (decS u)) ∧ Below w.heap.size w w' := by
  have HF := Lib.hid (fmt_any u h w hT)
  go_enter Tryz.func67, Tryz.ntmps67
  go_wp2_with fail
  refine HF.out.mono ?_
  rintro e w2 ⟨rfl, hb⟩
  have HB := Lib.hid hb
  clear HF hb
  go_wp2_with fail
  go_ret
  exact ⟨rfl, HB.out⟩
theorem decS_data (u : Nat) : (decS u).data.toList = Lib.decDigits u := by rfl
theorem push32_any (u : Nat) (h : u < 4294967296) (w : World) (hT : TabW w) : Calls Tryz.prog 66 #[.int .u32 (u : Int)] w fun e w' => e = .returned (.string (bytesOf (pushT u))) ∧ Below w.heap.size w w' := by
  have HF := Lib.hid (dig_any u (by omega) w hT)
  have hdl := decS_data u
  have hsz : (decS u).size ≤ 20 := by
    have h1 := size_list (decS u)
    have h2 := decS_size u (by omega)
    rw [hdl] at h1; omega
  have HR : Hid (bytesOf (pushT u) = (⟨#[112, 117, 115, 104, 32]⟩ : ByteArray) ++ decS u ++ (⟨#[10]⟩ : ByteArray)) := by
    show _ = _
    rw [← bytesOf_of ((⟨#[112, 117, 115, 104, 32]⟩ : ByteArray) ++ decS u ++ (⟨#[10]⟩ : ByteArray)), data_app, data_app, hdl]; rfl
  generalize decS u = D at *
  generalize bytesOf (pushT u) = R at *
  go_enter Tryz.func66, Tryz.ntmps66
  go_wp2_with fail
  refine HF.out.mono ?_
  rintro e w2 ⟨rfl, hb⟩
  have HB := Lib.hid hb
  clear HF hb hdl
  go_wp2_with fail
  go_ret
  exact ⟨by rw [HR.out]; rfl, HB.out⟩
def OutP (base : Nat) (ls : List PL) (e : Ending) (w' : World) : Prop := ∃ v, e = .returned v ∧ w'.ownsRow base 76 2 v ls.length (plVs ls)
set_option maxRecDepth 100000 in
set_option maxHeartbeats 4000000 in
theorem others_any (ls : List PL) (a : Option Addr) (c base : Nat) (port : Int) (w : World) (hA : PlsAt w a ls) (hm : ls.length ≤ 100000) :
    Calls Tryz.prog 18 #[.agg #[.int .u32 (base : Int), .int .i64 port, .slice a ls.length c]] w fun e w' => OutP w.heap.size ls e w' ∧ Below w.heap.size w w' := by
  obtain ⟨i0, hi, hz0, hz1, hz2⟩ := info_parts (show (Tryz.prog.info? 76).map (fun i => (i.zero, i.size, i.bytes)) = some (some (.agg #[.int .u32 0, .int .i64 0]), 2, 16) by kernel_rfl)
  have HIn := Lib.hid hi; have HZ0 := Lib.hid hz0; have HZ1 := Lib.hid hz1; have HZ2 := Lib.hid hz2
  clear hi hz0 hz1 hz2
  have HA := Lib.hid hA
  obtain ⟨n, hn⟩ : ∃ n, n = ls.length := ⟨_, rfl⟩
  rw [← hn] at hm ⊢
  have HN := Lib.hid hn
  obtain ⟨w1, hw1⟩ : ∃ x, x = w.alloc (.cells #[.int .u32 (base : Int), .int .i64 port, .slice a n c] 25) := ⟨_, rfl⟩
  have B1 : Hid (Below w.heap.size w w1) := by rw [hw1]; exact alloc_below _ _
  have K1 : Hid (w1.heap[w.heap.size]? = some (.cells #[.int .u32 (base : Int), .int .i64 port, .slice a n c] 25 (0, 0))) := by rw [hw1]; exact heap_alloc_new _ _
  have HW1 := Lib.hid hw1
  obtain ⟨g, hg⟩ : ∃ g, g = w.heap.size := ⟨_, rfl⟩
  rw [← hg] at K1
  have HG := Lib.hid hg
  clear hA hn hw1 hg
  have p2 := cell_row (j := 2) K1.out rfl
  go_enter Tryz.func18, Tryz.ntmps18
  go_upto_region 2 with fail
  rw [← HW1.out, ← HG.out]
  clear HW1
  go_wp2_with fail
  clear p2
  go_loopw [3, 9] (fun v i wr => ∃ k : Nat, k ≤ n ∧ i = .int .i64 (k : Int) ∧ Hid (wr.ownsRow w.heap.size 76 2 v k (plVs (ls.take k))) ∧ Hid (Below w.heap.size w wr)) (fun _ i _ => n - (intOf i).toNat)
  case atStart => exact ⟨0, Nat.zero_le _, rfl, World.ownsRow_nil _ _ _ _, B1⟩
  case round =>
    clear B1 K1 HG
    obtain ⟨k, hk, rfl, HO, BB⟩ := hrel
    rcases Nat.lt_or_ge k n with hk2 | hk2
    case inr =>
      obtain rfl : k = n := by omega
      have t2 : decide ((k : Int) < (k : Int)) = false := by simp
      have HF : Hid (ls.take k = ls) := by show _ = _; rw [HN.out, List.take_length]
      go_wp2_with fail
      go_ret
      exact ⟨⟨_, rfl, by have := HO.out; rw [HF.out, HN.out] at this; exact this⟩, BB.out⟩
    have t2 : decide ((k : Int) < (n : Int)) = true := decide_eq_true (by omega)
    obtain ⟨b, off, rfl, hb, hc⟩ := HA.out.at (by rw [← HN.out]; omega)
    have hN := HN.out
    have a0 : wr.cell? ⟨b, off + k * 2, none⟩ = some (.int .u32 ((ls.getD k pl0).fr : Int)) := (BB.out.cell hb).trans (hc k (by omega) 0 (by omega))
    have a1 : wr.cell? ⟨b, off + k * 2 + 1, none⟩ = some (.int .i64 (ls.getD k pl0).rt) := (BB.out.cell hb).trans (hc k (by omega) 1 (by omega))
    have HTK : Hid (plVs (ls.take k) ++ plC (ls.getD k pl0) = plVs (ls.take (k + 1))) := by
      show _ = _
      have hk3 : k < ls.length := by omega
      rw [List.take_succ_eq_append_getElem hk3, show ls.getD k pl0 = ls[k] by rw [List.getD_eq_getElem?_getD, List.getElem?_eq_getElem hk3]; rfl]
      unfold plVs
      rw [List.flatMap_append, List.flatMap_cons, List.flatMap_nil, List.append_nil]
    clear hc hN
    generalize ls.getD k pl0 = x at *
    obtain ⟨fr, rt⟩ := x
    unfold plC at HTK
    simp only at a0 a1 HTK
    obtain ⟨xs, hxs⟩ : ∃ xs, xs = plVs (ls.take k) := ⟨_, rfl⟩
    obtain ⟨ys, hys⟩ : ∃ ys, ys = plVs (ls.take (k + 1)) := ⟨_, rfl⟩
    rw [← hxs] at HO HTK
    rw [← hys] at HTK
    have HYS := Lib.hid hys
    clear hxs hys
    obtain ⟨w4, hw4⟩ : ∃ z, z = wr.alloc (.cells #[.int .u32 (fr : Int), .int .i64 rt] 71) := ⟨_, rfl⟩
    have K4 : Hid (w4.heap[wr.heap.size]? = some (.cells #[.int .u32 (fr : Int), .int .i64 rt] 71 (0, 0))) := by rw [hw4]; exact heap_alloc_new _ _
    have O4 : Hid (w4.ownsRow w.heap.size 76 2 u3 k xs) := by rw [hw4]; exact HO.out.alloc _
    have B4 : Hid (Below w.heap.size w w4) := by rw [hw4]; exact BB.out.alloc BB.out.size _
    have HW4 := Lib.hid hw4
    clear hw4 HO BB
    go_upto_region 5 with fail
    rw [← HW4.out]
    clear HW4 a0 a1
    obtain ⟨g4, hg4⟩ : ∃ g, g = wr.heap.size := ⟨_, rfl⟩
    rw [← hg4] at K4 ⊢
    clear hg4
    have c0 := cell_row (j := 0) K4.out rfl
    have c1 := cell_row (j := 1) K4.out rfl
    have HW : Hid (∀ j u, [Value.int .u32 (fr : Int), .int .i64 rt][j]? = some u → (w4.alloc (.cells #[.int .u32 (fr : Int), .int .i64 rt] 76)).cell? ((⟨w4.heap.size, 0, none⟩ : Addr).add j) = some u) := fun j v hj => by
      rw [Go.WideShapes.add_plain, Nat.zero_add]
      match j, hj with
      | 0, hj => exact cell_row (heap_alloc_new _ _) hj
      | 1, hj => exact cell_row (heap_alloc_new _ _) hj
      | n + 2, hj => simp at hj
    have OA := Lib.hid (O4.out.alloc (.cells #[.int .u32 (fr : Int), .int .i64 rt] 76))
    have HZ : Hid (w.heap.size ≤ w4.heap.size) := B4.out.size
    have HOL : Hid (∀ j, u3.ownBlock = some j → w.heap.size ≤ j) := fun j hj => (O4.out.lt j hj).1
    go_wp2_with (at_builtin; refine wpList_append_own _ rfl _ _ 32 rfl w.heap.size 76 i0 (.agg #[.int .u32 0, .int .i64 0]) 2 16 Tryz.underlying32 HIn.out HZ0.out HZ1.out HZ2.out rfl (by decide) u3 k _ rfl OA.out ⟨w4.heap.size, 0, none⟩ 1 1 [.int .u32 (fr : Int), .int .i64 rt] rfl rfl HW.out (fun u hu => by simp at hu; rcases hu with rfl | rfl <;> rfl) (by unfold maxLen; omega) (by omega) (by simp; have := HZ.out; omega) ?_)
    intro v6 w6 ho6 hg6 _
    have B6 : Hid (Below w.heap.size w w6) := (B4.out.alloc B4.out.size _).grown hg6 (by simp; have := HZ.out; omega) (fun j hj => HOL.out j hj)
    rw [HTK.out, HYS.out] at ho6
    have O6 := Lib.hid ho6
    clear ho6 hg6 OA HW c0 c1 O4 B4 HTK HYS K4
    go_wp2_with fail
    refine ⟨⟨k + 1, by omega, by go_num, O6, B6⟩, ?_⟩
    simp [intOf]; omega
end Go.Proofs.YtdlpgoackmgdkaaGreatDoor
