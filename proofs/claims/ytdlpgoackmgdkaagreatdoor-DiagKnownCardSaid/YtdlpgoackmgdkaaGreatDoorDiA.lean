/- A log: how it lies; may it be: the code's Bytes, the document's May. -/
import Derived.Test.YtdlpgoackmgdkaaGreatDoorDiR
import Derived.Test.YtdlpgoackmgdkaaGreatDoorArAC
namespace Go.Proofs.YtdlpgoackmgdkaaGreatDoor
open Go.RowKit Go.Shelf
set_option linter.unusedVariables false
set_option linter.unusedSimpArgs false
def IlAt (w : World) (a : Option Addr) (l : List Int) : Prop := SliceN w a l.length 1 (fun i _ => .int .i64 (l.getD i 0))
theorem IlAt.below {w w' : World} {a : Option Addr} {l : List Int} (h : IlAt w a l) (hb : Below w.heap.size w w') : IlAt w' a l := SliceN.below h hb
theorem IlAt.cell {w : World} {a : Option Addr} {l : List Int} (h : IlAt w a l) (hp : 0 < l.length) : ∃ b off, a = some ⟨b, off, none⟩ ∧ b < w.heap.size ∧ ∀ i, i < l.length → w.cell? ⟨b, off + i, none⟩ = some (.int .i64 (l.getD i 0)) := by
  obtain ⟨b, off, e, hb, hc⟩ := SliceN.at h hp
  exact ⟨b, off, e, hb, fun i hi => by have := hc i hi 0 (by decide); rw [Nat.mul_one] at this; exact this⟩
/-- An input word that may be. -/
def inOk (l : List Int) (i : Nat) : Bool := decide (0 ≤ l.getD i 0) && decide (l.getD i 0 ≤ 15) && (decide (i = 0) || decide (l.getD (i - 1) 0 < l.getD i 0))
def headOk (m : Nat) (size port : Int) : Bool := decide (1 ≤ m) && decide (m ≤ 16) && decide (1 ≤ size) && decide (size ≤ 1000) && decide (-1 ≤ port) && decide (port ≤ 15)
def bytesN (m : Nat) (size : Int) : Nat := 4 * (1 + m + 2 * size.toNat)
def mayD (l : List Int) (base : Nat) (size port : Int) : Bool := headOk l.length size port && (List.range l.length).all (inOk l) && decide (base + bytesN l.length size ≤ 4294967296)
theorem mayD_head {l : List Int} {base : Nat} {size port : Int} (h : headOk l.length size port = false) : mayD l base size port = false := by unfold mayD; rw [h]; rfl
theorem mayD_bad {l : List Int} {base : Nat} {size port : Int} {k : Nat} (hk : k < l.length) (h : inOk l k = false) : mayD l base size port = false := by
  unfold mayD
  have : (List.range l.length).all (inOk l) = false := by rw [List.all_eq_false]; exact ⟨k, List.mem_range.2 hk, by rw [h]; decide⟩
  rw [this, Bool.and_false, Bool.false_and]
theorem mayD_rest {l : List Int} {base : Nat} {size port : Int} (h1 : headOk l.length size port = true) (h : ∀ j, j < l.length → inOk l j = true) : mayD l base size port = decide (base + bytesN l.length size ≤ 4294967296) := by
  unfold mayD
  have : (List.range l.length).all (inOk l) = true := List.all_eq_true.2 fun i hi => h i (List.mem_range.1 hi)
  rw [this, h1]; simp
def lgOf (l : List Int) (base : Nat) (size port : Int) : LG := ⟨l.map Int.toNat, base, size.toNat, if port < 0 then none else some port.toNat⟩
theorem mayD_ok {l : List Int} {base : Nat} {size port : Int} (h : mayD l base size port = true) : (lgOf l base size port).Ok ∧ (size.toNat : Int) = size ∧ (∀ i, i < l.length → ((l.getD i 0).toNat : Int) = l.getD i 0 ∧ (l.getD i 0).toNat < 16) ∧ -1 ≤ port ∧ port ≤ 15 ∧ (lgOf l base size port).bytes = bytesN l.length size := by
  unfold mayD headOk at h
  simp only [Bool.and_eq_true, decide_eq_true_eq, List.all_eq_true, List.mem_range] at h
  obtain ⟨⟨⟨⟨⟨⟨⟨h1, h2⟩, h3⟩, h4⟩, h5⟩, h6⟩, h7⟩, h8⟩ := h
  have hi : ∀ i, i < l.length → ((l.getD i 0).toNat : Int) = l.getD i 0 ∧ (l.getD i 0).toNat < 16 := fun i hi => by
    have := h7 i hi
    unfold inOk at this
    simp only [Bool.and_eq_true, decide_eq_true_eq] at this
    omega
  have hm : (lgOf l base size port).m = l.length := by unfold lgOf LG.m; simp
  have hby : (lgOf l base size port).bytes = bytesN l.length size := by unfold LG.bytes bytesN; rw [hm]; rfl
  refine ⟨⟨by omega, by omega, ?_, by show 1 ≤ size.toNat; omega, by show size.toNat ≤ 1000; omega, ?_, by rw [hby]; exact h8⟩, by omega, hi, h5, h6, hby⟩
  · intro n hn
    obtain ⟨x, hx, rfl⟩ := List.mem_map.1 hn
    obtain ⟨i, hi2, rfl⟩ := List.mem_iff_getElem.1 hx
    have := hi i hi2
    rw [List.getD_eq_getElem?_getD, List.getElem?_eq_getElem hi2] at this
    exact this.2
  · intro P hP
    unfold lgOf at hP
    simp only at hP
    split at hP
    · cases hP
    · cases hP; omega
/-- A log's struct. -/
def bytesR (b : Bool) (m : Nat) (size : Int) : Int := if b then ((bytesN m size : Nat) : Int) else 0
set_option maxRecDepth 100000 in
set_option maxHeartbeats 8000000 in
theorem dbytes_any (l : List Int) (ia : Option Addr) (ic base : Nat) (size port : Int) (w : World) (hA : IlAt w ia l) (hm : l.length ≤ 9223372036854775807) (hb0 : base < 4294967296) :
    Calls Tryz.prog 26 #[.agg #[.slice ia l.length ic, .int .u32 (base : Int), .int .i64 size, .int .i64 port]] w fun e w' => e = .returned (.int .i64 (bytesR (mayD l base size port) l.length size)) ∧ Below w.heap.size w w' := by
  have HA := Lib.hid hA
  have HH := Lib.hid (fun h => mayD_head (l := l) (base := base) (size := size) (port := port) h)
  have HBAD := Lib.hid (fun k hk => mayD_bad (l := l) (base := base) (size := size) (port := port) (k := k) hk)
  have HRE := Lib.hid (fun h1 h => mayD_rest (l := l) (base := base) (size := size) (port := port) h1 h)
  obtain ⟨may, hmay⟩ : ∃ b, b = mayD l base size port := ⟨_, rfl⟩
  rw [← hmay] at HH HBAD HRE ⊢
  have HR : Hid (bytesR may l.length size = if may then ((bytesN l.length size : Nat) : Int) else 0) := rfl
  generalize bytesR may l.length size = res at *
  obtain ⟨m, hn⟩ : ∃ n, n = l.length := ⟨_, rfl⟩
  rw [← hn] at hm HH HR HRE ⊢
  have HN := Lib.hid hn
  obtain ⟨w1, hw1⟩ : ∃ x, x = w.alloc (.cells #[.slice ia m ic, .int .u32 (base : Int), .int .i64 size, .int .i64 port] 44) := ⟨_, rfl⟩
  have B1 : Hid (Below w.heap.size w w1) := by rw [hw1]; exact alloc_below _ _
  have K1 : Hid (w1.heap[w.heap.size]? = some (.cells #[.slice ia m ic, .int .u32 (base : Int), .int .i64 size, .int .i64 port] 44 (0, 0))) := by rw [hw1]; exact heap_alloc_new _ _
  have HW1 := Lib.hid hw1
  obtain ⟨g, hg⟩ : ∃ g, g = w.heap.size := ⟨_, rfl⟩
  rw [← hg] at K1
  have HG := Lib.hid hg
  clear hA hn hw1 hg hmay
  have p0 : w1.cell? ⟨g, 0, none⟩ = some (.slice ia m ic) := cell_row (j := 0) K1.out rfl
  have p1 : w1.cell? ⟨g, 1, none⟩ = some (.int .u32 (base : Int)) := cell_row (j := 1) K1.out rfl
  have p2 : w1.cell? ⟨g, 2, none⟩ = some (.int .i64 size) := cell_row (j := 2) K1.out rfl
  have p3 : w1.cell? ⟨g, 3, none⟩ = some (.int .i64 port) := cell_row (j := 3) K1.out rfl
  have HHD : Hid (headOk m size port = (decide (1 ≤ m) && decide (m ≤ 16) && decide (1 ≤ size) && decide (size ≤ 1000) && decide (-1 ≤ port) && decide (port ≤ 15))) := rfl
  go_enter Tryz.func26, Tryz.ntmps26
  go_upto_region 1 with fail
  rw [← HW1.out, ← HG.out]
  clear HW1
  by_cases h1 : 1 ≤ m
  case neg =>
    have t1 : decide ((m : Int) < 1) = true := decide_eq_true (by omega)
    have HX : Hid (may = false) := HH.out (by rw [HHD.out, decide_eq_false h1]; rfl)
    have HF : Hid (res = 0) := by show _ = _; rw [HR.out, HX.out]; rfl
    clear HX
    go_wp2_with fail
    go_ret
    exact ⟨by rw [HF.out]; rfl, B1.out⟩
  have t1 : decide ((m : Int) < 1) = false := decide_eq_false (by omega)
  by_cases h2 : m ≤ 16
  case neg =>
    have t2 : decide (16 < (m : Int)) = true := decide_eq_true (by omega)
    have HX : Hid (may = false) := HH.out (by rw [HHD.out, decide_eq_false h2, Bool.and_false]; rfl)
    have HF : Hid (res = 0) := by show _ = _; rw [HR.out, HX.out]; rfl
    clear HX
    go_wp2_with fail
    go_ret
    exact ⟨by rw [HF.out]; rfl, B1.out⟩
  have t2 : decide (16 < (m : Int)) = false := decide_eq_false (by omega)
  by_cases h3 : 1 ≤ size
  case neg =>
    have t3 : decide (size < 1) = true := decide_eq_true (by omega)
    have HX : Hid (may = false) := HH.out (by rw [HHD.out, decide_eq_false h3, Bool.and_false]; rfl)
    have HF : Hid (res = 0) := by show _ = _; rw [HR.out, HX.out]; rfl
    clear HX
    go_wp2_with fail
    go_ret
    exact ⟨by rw [HF.out]; rfl, B1.out⟩
  have t3 : decide (size < 1) = false := decide_eq_false (by omega)
  by_cases h4 : size ≤ 1000
  case neg =>
    have t4 : decide (1000 < size) = true := decide_eq_true (by omega)
    have HX : Hid (may = false) := HH.out (by rw [HHD.out, decide_eq_false h4, Bool.and_false]; rfl)
    have HF : Hid (res = 0) := by show _ = _; rw [HR.out, HX.out]; rfl
    clear HX
    go_wp2_with fail
    go_ret
    exact ⟨by rw [HF.out]; rfl, B1.out⟩
  have t4 : decide (1000 < size) = false := decide_eq_false (by omega)
  by_cases h5 : -1 ≤ port
  case neg =>
    have t5 : decide (port < -1) = true := decide_eq_true (by omega)
    have HX : Hid (may = false) := HH.out (by rw [HHD.out, decide_eq_false h5, Bool.and_false]; rfl)
    have HF : Hid (res = 0) := by show _ = _; rw [HR.out, HX.out]; rfl
    clear HX
    go_wp2_with fail
    go_ret
    exact ⟨by rw [HF.out]; rfl, B1.out⟩
  have t5 : decide (port < -1) = false := decide_eq_false (by omega)
  by_cases h6 : port ≤ 15
  case neg =>
    have t6 : decide (16 ≤ port) = true := decide_eq_true (by omega)
    have HX : Hid (may = false) := HH.out (by rw [HHD.out, decide_eq_false h6, Bool.and_false])
    have HF : Hid (res = 0) := by show _ = _; rw [HR.out, HX.out]; rfl
    clear HX
    go_wp2_with fail
    go_ret
    exact ⟨by rw [HF.out]; rfl, B1.out⟩
  have t6 : decide (16 ≤ port) = false := decide_eq_false (by omega)
  have HRE2 := Lib.hid (HRE.out (by rw [HHD.out, decide_eq_true h1, decide_eq_true h2, decide_eq_true h3, decide_eq_true h4, decide_eq_true h5, decide_eq_true h6]; rfl))
  clear HRE HH HHD
  go_wp2_with fail
  clear p0 p1 p2 p3 t1 t2 t3 t4 t5 t6
  go_loopw [39] (fun i wr => ∃ k : Nat, k ≤ m ∧ i = .int .i64 (k : Int) ∧ Hid (∀ j, j < k → inOk l j = true) ∧ wr = w1) (fun i _ => m - (intOf i).toNat)
  case atStart => exact ⟨0, Nat.zero_le _, rfl, fun j hj => absurd hj (by omega), rfl⟩
  case round =>
    obtain ⟨k, hk, rfl, HS, rfl⟩ := hrel
    have p0 : wr.cell? ⟨g, 0, none⟩ = some (.slice ia m ic) := cell_row (j := 0) K1.out rfl
    have p1 : wr.cell? ⟨g, 1, none⟩ = some (.int .u32 (base : Int)) := cell_row (j := 1) K1.out rfl
    have p2 : wr.cell? ⟨g, 2, none⟩ = some (.int .i64 size) := cell_row (j := 2) K1.out rfl
    have p3 : wr.cell? ⟨g, 3, none⟩ = some (.int .i64 port) := cell_row (j := 3) K1.out rfl
    rcases Nat.lt_or_ge k m with hk2 | hk2
    case inr =>
      obtain rfl : k = m := by omega
      have t2 : decide ((k : Int) < (k : Int)) = false := by simp
      have HX0 := Lib.hid (HRE2.out HS.out)
      obtain ⟨s, rfl⟩ := Int.eq_ofNat_of_zero_le (show 0 ≤ size by omega)
      have HBN : Hid (((bytesN k (s : Int) : Nat) : Int) = 4 * (1 + (k : Int) + 2 * (s : Int))) := by show _ = _; unfold bytesN; omega
      have hbn : bytesN k (s : Int) = 4 * (1 + k + 2 * s) := rfl
      have e1 : (4 * (1 + (k : Int) + 2 * (s : Int))) % 18446744073709551616 = 4 * (1 + (k : Int) + 2 * (s : Int)) := by omega
      have e2 : ((base : Int) + 4 * (1 + (k : Int) + 2 * (s : Int))) % 18446744073709551616 = (base : Int) + 4 * (1 + (k : Int) + 2 * (s : Int)) := by omega
      clear HS HRE2 HBAD
      by_cases h7 : base + bytesN k (s : Int) ≤ 4294967296
      case neg =>
        have HX : Hid (may = false) := by show _ = _; rw [HX0.out, decide_eq_false h7]
        have t7 : decide (4294967296 < (base : Int) + 4 * (1 + (k : Int) + 2 * (s : Int))) = true := decide_eq_true (by omega)
        clear HX0
        have HF : Hid (res = 0) := by show _ = _; rw [HR.out, HX.out]; rfl
        clear HX
        go_wp2_with fail
        go_ret
        exact ⟨by rw [HF.out]; rfl, B1.out⟩
      have HX : Hid (may = true) := by show _ = _; rw [HX0.out, decide_eq_true h7]
      have t7 : decide (4294967296 < (base : Int) + 4 * (1 + (k : Int) + 2 * (s : Int))) = false := decide_eq_false (by omega)
      have HF : Hid (res = 4 * (1 + (k : Int) + 2 * (s : Int))) := by show _ = _; rw [HR.out, HX.out, if_pos rfl, HBN.out]
      clear HX HX0 hbn
      go_wp2_with fail
      go_ret
      exact ⟨by rw [HF.out]; rfl, B1.out⟩
    have t2 : decide ((k : Int) < (m : Int)) = true := decide_eq_true (by omega)
    have i1 : (k : Int) < (m : Int) := by omega
    obtain ⟨b, off, rfl, hb, hc⟩ := HA.out.cell (by rw [← HN.out]; omega)
    have x0 : wr.cell? ⟨b, off + k, none⟩ = some (.int .i64 (l.getD k 0)) := (B1.out.cell hb).trans (hc k (by rw [← HN.out]; omega))
    have HBK := Lib.hid (HBAD.out k (by rw [← HN.out]; exact hk2))
    have HNX : Hid (inOk l k = true → ∀ j, j < k + 1 → inOk l j = true) := fun h j hj => by
      rcases Nat.lt_succ_iff_lt_or_eq.1 hj with h1 | rfl
      · exact HS.out j h1
      · exact h
    have HIO : Hid (inOk l k = (decide (0 ≤ l.getD k 0) && decide (l.getD k 0 ≤ 15) && (decide (k = 0) || decide (l.getD (k - 1) 0 < l.getD k 0)))) := rfl
    by_cases e1 : 0 ≤ l.getD k 0
    case neg =>
      have HX : Hid (may = false) := HBK.out (by rw [HIO.out, decide_eq_false e1]; rfl)
      have t3 : decide (l.getD k 0 < 0) = true := decide_eq_true (by omega)
      clear HBK HNX HIO hc HS
      generalize l.getD k 0 = x at *
      have HF : Hid (res = 0) := by show _ = _; rw [HR.out, HX.out]; rfl
      clear HX
      go_wp2_with fail
      go_ret
      exact ⟨by rw [HF.out]; rfl, B1.out⟩
    have t3 : decide (l.getD k 0 < 0) = false := decide_eq_false (by omega)
    by_cases e2 : l.getD k 0 ≤ 15
    case neg =>
      have HX : Hid (may = false) := HBK.out (by rw [HIO.out, decide_eq_false e2, Bool.and_false]; rfl)
      have t4 : decide (16 ≤ l.getD k 0) = true := decide_eq_true (by omega)
      clear HBK HNX HIO hc HS
      generalize l.getD k 0 = x at *
      have HF : Hid (res = 0) := by show _ = _; rw [HR.out, HX.out]; rfl
      clear HX
      go_wp2_with fail
      go_ret
      exact ⟨by rw [HF.out]; rfl, B1.out⟩
    have t4 : decide (16 ≤ l.getD k 0) = false := decide_eq_false (by omega)
    by_cases e3 : k = 0
    case pos =>
      have HS2 := Lib.hid (HNX.out (by rw [HIO.out, decide_eq_true e1, decide_eq_true e2, decide_eq_true e3]; rfl))
      subst e3
      have x0 : wr.cell? ⟨b, off, none⟩ = some (.int .i64 (l.getD 0 0)) := x0
      clear HBK HNX HIO hc HS
      generalize l.getD 0 0 = x at *
      go_wp2_with fail
      exact ⟨⟨1, by omega, rfl, HS2, by first | trivial | rfl⟩, by simp [intOf]; omega⟩
    have t5 : decide (0 < (k : Int)) = true := decide_eq_true (by omega)
    obtain ⟨j, rfl⟩ : ∃ j, k = j + 1 := ⟨k - 1, by omega⟩
    have x1 : wr.cell? ⟨b, off + j, none⟩ = some (.int .i64 (l.getD j 0)) := (B1.out.cell hb).trans (hc j (by rw [← HN.out]; omega))
    have ej : ((j + 1 : Nat) : Int) - 1 = (j : Int) := by omega
    have i2 : (j : Int) < (m : Int) := by omega
    have hj1 : j + 1 - 1 = j := by omega
    rw [hj1] at HIO
    by_cases e4 : l.getD j 0 < l.getD (j + 1) 0
    case neg =>
      have HX : Hid (may = false) := HBK.out (by rw [HIO.out, decide_eq_false e3, decide_eq_false e4, Bool.false_or, Bool.and_false])
      have t6 : decide (l.getD (j + 1) 0 ≤ l.getD j 0) = true := decide_eq_true (by omega)
      clear HBK HNX HIO hc HS hj1
      generalize l.getD (j + 1) 0 = x at *
      generalize l.getD j 0 = y at *
      have HF : Hid (res = 0) := by show _ = _; rw [HR.out, HX.out]; rfl
      clear HX
      go_wp2_with fail
      go_ret
      exact ⟨by rw [HF.out]; rfl, B1.out⟩
    have HS2 := Lib.hid (HNX.out (by rw [HIO.out, decide_eq_true e1, decide_eq_true e2, decide_eq_true e4, Bool.or_true]; rfl))
    have t6 : decide (l.getD (j + 1) 0 ≤ l.getD j 0) = false := decide_eq_false (by omega)
    clear HBK HNX HIO hc HS hj1
    generalize l.getD (j + 1) 0 = x at *
    generalize l.getD j 0 = y at *
    go_wp2_with fail
    refine ⟨⟨j + 1 + 1, by omega, by go_num, HS2, by first | trivial | rfl⟩, ?_⟩
    simp [intOf]; omega
end Go.Proofs.YtdlpgoackmgdkaaGreatDoor
