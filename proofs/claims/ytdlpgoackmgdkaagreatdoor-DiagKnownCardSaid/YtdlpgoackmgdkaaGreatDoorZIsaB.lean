/- Text. -/
import Derived.Test.YtdlpgoackmgdkaaGreatDoorZIsaLay
import Derived.Test.YtdlpgoackmgdkaaGreatDoorZIsaA
import Derived.Lib.ItoaLen
import Derived.Deep.RegionHeld3
import Derived.BigQuiet
import Derived.Sort.BigQuietIn
import Derived.Laws.StructEq
import Derived.Deep.CutRange
import Derived.Deep.OwnRows
import Derived.ArgAppend
namespace Go.Proofs.YtdlpgoackmgdkaaGreatDoor
open Go.RowKit
set_option linter.unusedVariables false
set_option linter.unusedSimpArgs false
def nameS (op : Nat) : ByteArray := ⟨(rowAt op).name.toArray⟩
def blank : ByteArray := ⟨#[32]⟩
def textN (nm : Nat) (s : ByteArray) (a b c : Nat) : ByteArray := if nm = 0 then s else if nm = 1 then s ++ (blank ++ decS a) else if nm = 3 then s ++ (blank ++ decS a) ++ (blank ++ decS b) else if nm = 4 then s ++ (blank ++ decS c) else s ++ decS a ++ (blank ++ decS c)
def Ins.text (i : Ins) : ByteArray := if i.may then textN (rowAt i.op).nm (nameS i.op) i.a i.b i.c else ⟨#[]⟩
theorem decS_size (n : Nat) (h : n < 18446744073709551616) : (decS n).size ≤ 20 := by
  show (Lib.decDigits n).toArray.size ≤ 20
  rw [List.size_toArray, Lib.decDigits_length]
  exact Lib.nDigits_le20 n h
theorem name_size0 : ∀ op, op < 28 → (rowAt op).name.length ≤ 5 := by decide
theorem nameS_size (op : Nat) : (nameS op).size ≤ 5 := by
  show (rowAt op).name.toArray.size ≤ 5
  rw [List.size_toArray]
  by_cases h : op < 28
  · exact name_size0 op h
  · rw [rowAt_none (by omega)]; decide

end Go.Proofs.YtdlpgoackmgdkaaGreatDoor
/- What known and others use: equality of instructions, short texts, new slices. -/
namespace Go.Proofs.YtdlpgoackmgdkaaGreatDoor
open Go.RowKit
set_option linter.unusedVariables false
theorem kept {w w' : World} {g : Nat} {o : Obj} (h : w.heap[g]? = some o) (hb : Below w.heap.size w w') : w'.heap[g]? = some o := (hb.block g (heap_lt h)).trans h
end Go.Proofs.YtdlpgoackmgdkaaGreatDoor
/- Op, and the document's; the walk of IsaNames. -/
namespace Go.Proofs.YtdlpgoackmgdkaaGreatDoor
open Go.RowKit
set_option linter.unusedVariables false
def first (p : Nat → Bool) (n : Nat) : Option Nat := (List.range n).find? p
theorem first_some {p : Nat → Bool} {n k : Nat} (hk : k < n) (hp : p k = true) (h : ∀ j, j < k → p j = false) : first p n = some k := by
  unfold first
  rw [List.find?_eq_some_iff_append]
  refine ⟨hp, (List.range n).take k, (List.range n).drop (k + 1), ?_, fun a ha => ?_⟩
  · apply List.ext_getElem?
    intro i
    by_cases h1 : i < k
    · rw [List.getElem?_append_left (by simp; omega), List.getElem?_take, if_pos h1]
    · rw [List.getElem?_append_right (by simp; omega)]
      have hl : ((List.range n).take k).length = k := by simp; omega
      rw [hl]
      by_cases h2 : i = k
      · subst h2; simp [hk]
      · obtain ⟨d, hd⟩ : ∃ d, i - k = d + 1 := ⟨i - k - 1, by omega⟩
        rw [hd, List.getElem?_cons_succ, List.getElem?_drop, show k + 1 + d = i by omega]
  · obtain ⟨i, hi⟩ := List.mem_iff_getElem?.1 ha
    rw [List.getElem?_take] at hi
    by_cases e : i < k
    · rw [if_pos e] at hi
      have : i = a := by
        have hin : i < n := by omega
        simpa [hin] using hi
      subst this
      simp [h i e]
    · rw [if_neg e] at hi; cases hi
theorem first_none {p : Nat → Bool} {n : Nat} (h : ∀ j, j < n → p j = false) : first p n = none := by
  unfold first
  rw [List.find?_eq_none]
  intro x hx
  have : x < n := by simpa using hx
  simp [h x this]
def opHit (s : ByteArray) (k : Nat) : Bool := decide (0 < k) && ((nameS k).toList == s.toList)
def opOf (s : ByteArray) : Nat := (first (opHit s) 28).getD 0
theorem opOf_at {s : ByteArray} {k : Nat} (hk : k < 28) (hp : opHit s k = true) (h : ∀ j, j < k → opHit s j = false) : opOf s = k := by unfold opOf; rw [first_some hk hp h]; rfl
theorem opOf_no {s : ByteArray} (h : ∀ j, j < 28 → opHit s j = false) : opOf s = 0 := by unfold opOf; rw [first_none h]; rfl
set_option maxHeartbeats 4000000 in
set_option maxRecDepth 100000 in
theorem op_any (s : ByteArray) (w : World) : Calls Tryz.prog 134 #[.string s] w fun e w' => e = .returned (.int .u8 ((opOf s : Nat) : Int)) ∧ Below w.heap.size w w' := by
  go_enter Tryz.func134, Tryz.ntmps134
  go_wp2_with fail
  refine (rows_any w).mono ?_
  rintro e w1 ⟨rfl, hb⟩
  have B1 := Lib.hid hb
  clear hb
  go_wp2_with fail
  go_loopw [6] (fun i wr => ∃ k : Nat, k ≤ 28 ∧ i = .int .i64 (k : Int) ∧ (∀ j, j < k → opHit s j = false) ∧ Below w.heap.size w wr) (fun i _ => 28 - (intOf i).toNat)
  case atStart => exact ⟨0, by omega, rfl, fun j hj => absurd hj (by omega), B1.out⟩
  case round =>
    obtain ⟨k, hk, rfl, r1, r2⟩ := hrel
    have HJ := Lib.hid r1; have BK := Lib.hid r2
    clear r1 r2
    by_cases hlt : k < 28
    · have hi := index54i k hlt
      have hki : (k : Int) < 28 := by omega
      unfold RowI.arr at hi
      have HN : Hid (nameS k = ⟨(rowAt k).name.toArray⟩) := rfl
      rw [← HN.out] at hi
      have HB : Hid (∀ o, Below w.heap.size w (wr.alloc o)) := fun o => BK.out.alloc BK.out.size o
      cases hh : opHit s k
      case true =>
        have HO := Lib.hid (opOf_at hlt hh HJ.out)
        unfold opHit at hh
        rw [Bool.and_eq_true, decide_eq_true_eq] at hh
        have t1' : 0 < k := hh.1
        have t1 : decide ((0 : Int) < (k : Int)) = true := by simp; omega
        have t2 : ((nameS k).toList == s.toList) = true := hh.2
        clear hh HN
        generalize nameS k = nm at *
        generalize (rowAt k).nm = q1 at *
        generalize (rowAt k).most = q2 at *
        generalize (rowAt k).takes = q3 at *
        generalize (rowAt k).gives = q4 at *
        go_wp2_with fail
        go_ret
        exact ⟨by rw [HO.out]; first | done | rfl, HB.out _⟩
      case false =>
        have HS : Hid (∀ j, j < k + 1 → opHit s j = false) := fun j hj => by
          rcases Nat.lt_or_ge j k with h | h
          · exact HJ.out j h
          · obtain rfl : j = k := by omega
            exact hh
        unfold opHit at hh
        by_cases h0 : 0 < k
        · have t1 : decide ((0 : Int) < (k : Int)) = true := by simp; omega
          have t2 : ((nameS k).toList == s.toList) = false := by simpa [h0] using hh
          clear hh HN
          generalize nameS k = nm at *
          generalize (rowAt k).nm = q1 at *
          generalize (rowAt k).most = q2 at *
          generalize (rowAt k).takes = q3 at *
          generalize (rowAt k).gives = q4 at *
          go_wp2_with fail
          go_roundw
          case rel => exact ⟨k + 1, by omega, by go_num, HS.out, HB.out _⟩
          case measure => simp [intOf]; omega
        · have t1 : decide ((0 : Int) < (k : Int)) = false := by simp; omega
          clear hh HN
          generalize nameS k = nm at *
          generalize (rowAt k).nm = q1 at *
          generalize (rowAt k).most = q2 at *
          generalize (rowAt k).takes = q3 at *
          generalize (rowAt k).gives = q4 at *
          go_wp2_with fail
          go_roundw
          case rel => exact ⟨k + 1, by omega, by go_num, HS.out, HB.out _⟩
          case measure => simp [intOf]; omega
    · obtain rfl : k = 28 := by omega
      have HO := Lib.hid (opOf_no HJ.out)
      go_wp2_with fail
      go_ret
      exact ⟨by rw [HO.out]; rfl, BK.out⟩
end Go.Proofs.YtdlpgoackmgdkaaGreatDoor
/- FormatUint at base 10. -/
namespace Go.Proofs.YtdlpgoackmgdkaaGreatDoor
open Go.Shelf Go.RowKit Go.Sort
set_option linter.unusedVariables false
def Tryz.laysNum_ren : Go.Shelf.Ren := ⟨fun | 284 => 101 | 129 => 129 | 317 => 128 | 318 => 130 | n => n, fun | 53 => 113 | 3 => 3 | 212 => 204 | 0 => 0 | 4 => 4 | 46 => 95 | 5 => 5 | 9 => 9 | n => n, fun | 17 => 0 | n => n⟩
theorem Tryz.laysNum : Go.Proofs.LaysM.n284 Tryz.prog Tryz.laysNum_ren := {
  mixed := by kernel_rfl
  f129 := Tryz.func129.trans (congrArg some (by kernel_rfl))
  f284 := Tryz.func101.trans (congrArg some (by kernel_rfl))
  f317 := Tryz.func128.trans (congrArg some (by kernel_rfl))
  f318 := Tryz.func130.trans (congrArg some (by kernel_rfl))
  t0 := Tryz.underlying0
  a0 := Tryz.isAgg0
  z0 := Tryz.sizeOf0
  v0 := Tryz.zeroValue0
  t3 := Tryz.underlying3
  a3 := Tryz.isAgg3
  z3 := Tryz.sizeOf3
  v3 := Tryz.zeroValue3
  t4 := Tryz.underlying4
  a4 := Tryz.isAgg4
  z4 := Tryz.sizeOf4
  v4 := Tryz.zeroValue4
  t5 := Tryz.underlying5
  a5 := Tryz.isAgg5
  z5 := Tryz.sizeOf5
  v5 := Tryz.zeroValue5
  t9 := Tryz.underlying9
  a9 := Tryz.isAgg9
  z9 := Tryz.sizeOf9
  v9 := Tryz.zeroValue9
  t46 := Tryz.underlying95
  a46 := Tryz.isAgg95
  z46 := Tryz.sizeOf95
  v46 := Tryz.zeroValue95
  t53 := Tryz.underlying113
  a53 := Tryz.isAgg113
  z53 := Tryz.sizeOf113
  v53 := Tryz.zeroValue113
  t212 := Tryz.underlying204
  a212 := Tryz.isAgg204
  z212 := Tryz.sizeOf204
  v212 := Tryz.zeroValue204
  g17 := by kernel_rfl
  i0 := by kernel_rfl
  i3 := by kernel_rfl
  i4 := by kernel_rfl
  i5 := by kernel_rfl
  i9 := by kernel_rfl
  i46 := by kernel_rfl
  i53 := by kernel_rfl
  i212 := by kernel_rfl
  m17 := by kernel_rfl }
def Tryz.laysB10_ren : Go.Shelf.Ren := ⟨fun | 285 => 102 | n => n, fun | 37 => 39 | 53 => 113 | 3 => 3 | 4 => 4 | 51 => 22 | 9 => 9 | 5 => 5 | 0 => 0 | n => n, fun | n => n⟩
theorem Tryz.laysB10 : Go.Proofs.Lays.n285 Tryz.prog Tryz.laysB10_ren := {
  mixed := by kernel_rfl
  f285 := Tryz.func102.trans (congrArg some (by kernel_rfl))
  t0 := Tryz.underlying0
  a0 := Tryz.isAgg0
  z0 := Tryz.sizeOf0
  v0 := Tryz.zeroValue0
  t3 := Tryz.underlying3
  a3 := Tryz.isAgg3
  z3 := Tryz.sizeOf3
  v3 := Tryz.zeroValue3
  t4 := Tryz.underlying4
  a4 := Tryz.isAgg4
  z4 := Tryz.sizeOf4
  v4 := Tryz.zeroValue4
  t5 := Tryz.underlying5
  a5 := Tryz.isAgg5
  z5 := Tryz.sizeOf5
  v5 := Tryz.zeroValue5
  t9 := Tryz.underlying9
  a9 := Tryz.isAgg9
  z9 := Tryz.sizeOf9
  v9 := Tryz.zeroValue9
  t37 := Tryz.underlying39
  a37 := Tryz.isAgg39
  z37 := Tryz.sizeOf39
  v37 := Tryz.zeroValue39
  t51 := Tryz.underlying22
  a51 := Tryz.isAgg22
  z51 := Tryz.sizeOf22
  v51 := Tryz.zeroValue22
  t53 := Tryz.underlying113
  a53 := Tryz.isAgg113
  z53 := Tryz.sizeOf113
  v53 := Tryz.zeroValue113 }
def encB (b : UInt8) : Value := Value.int .u8 (b.toNat : Int)
theorem num_any (u : Nat) (h1 : 1 ≤ u) (h2 : u < 18446744073709551616) (w : World) (htab : Lib.TabIs Tryz.prog w "internal/strconv.uint64pow10" .u64 Lib.pow10Tab) :
    Calls Tryz.prog 101 #[.int .u64 (u : Int)] w fun e w' => e = .returned (.int .i64 (Lib.nDigits u : Int)) ∧ w' = w := Any.internal_strconv_numDigits Tryz.laysNum u h1 h2 w htab
theorem b10_any (blk off cap : Nat) (u : Nat) (d : Array UInt8) (w : World) (hH : Holds encB w blk off d) (hu : u < 10 ^ d.size) (hu64 : u < 18446744073709551616) (hsz : d.size < 4611686018427387904) :
    Calls Tryz.prog 102 #[.slice (some ⟨blk, off, none⟩) d.size cap, .int .u64 (u : Int)] w fun e w' =>
      e = .returned (.tuple #[]) ∧ ∃ (n v' : Nat) (dk : Array UInt8), w' = (putRow encB w blk off dk).drewN n ∧ Lib.FmtInv d.size u 0 v' dk := Any.internal_strconv_formatBase10 Tryz.laysB10 blk off cap u d w hH hu hu64 hsz
theorem holds0 (w : World) (T : TypeId) (nd : Nat) (hs : nd ≤ 24) : Holds encB (w.alloc (.cells Lib.zeros24 T)) w.heap.size 0 (Array.replicate nd (0 : UInt8)) := fun j hj => by
  have hj' : j < nd := by simpa using hj
  refine ⟨?_, World.frozen?_alloc_new _ _ _ _⟩
  rw [World.cell?_alloc_new, Lib.zeros24_at _ (by omega), getElem!_pos _ j hj]
  simp [encB]
theorem below_grow (w : World) (k : Nat) (os : Array Obj) : Below w.heap.size w ((grow w os).drewN k) := ⟨rfl, rfl, rfl, by show _ ≤ (w.heap ++ os).size; simp, fun i hi => by show (w.heap ++ os)[i]? = _; rw [Array.getElem?_append_left hi]⟩
theorem below_put (w : World) (o : Obj) (off : Nat) (dk : Array UInt8) (k : Nat) : Below w.heap.size w ((putRow encB (w.alloc o) w.heap.size off dk).drewN k) := by
  rw [alloc_eq_grow]
  obtain ⟨os', _, e⟩ := putRow_grow_new encB w #[o] w.heap.size off dk (Nat.le_refl _)
  rw [e]
  exact below_grow w k os'
set_option maxHeartbeats 2000000 in
set_option maxRecDepth 100000 in
theorem fmt_int (u : Nat) (hu : 100 ≤ u) (h : u < 18446744073709551616) (w : World) (htab : Lib.TabIs Tryz.prog w "internal/strconv.uint64pow10" .u64 Lib.pow10Tab) :
    Calls Tryz.prog 85 #[.int .u64 (u : Int), .int .i64 10] w fun e w' => e = .returned (.string (decS u)) ∧ Below w.heap.size w w' := by
  have t1 : decide ((u : Int) < 100) = false := by simp; omega
  have hnd20 : Lib.nDigits u ≤ 20 := by have := Lib.numDigits_eq u (by omega) h; split at this <;> omega
  have hal : Tryz.prog.arrayLen 170 = 24 := by kernel_rfl
  have hsl : ∀ W, (Instr.sliceAt 170 (.pointer (some ⟨w.heap.size, 0, none⟩)) none (some (.int .i64 (Lib.nDigits u : Int))) none).run Tryz.prog W = .ok (.slice (some ⟨w.heap.size, 0, none⟩) (Lib.nDigits u) 24) W := fun W => by
    rw [run_sliceAt_array_h W 170 ⟨w.heap.size, 0, none⟩ (by simp [Program.arrayLen, Program.elem, Tryz.underlying170]) .i64 (Lib.nDigits u : Int) (by omega) (by rw [hal]; omega)]
    go_simp
  have hH0 := holds0 w 170 (Lib.nDigits u) (by omega)
  have hfmt := b10_any w.heap.size 0 24 u (Array.replicate (Lib.nDigits u) 0) (w.alloc (.cells Lib.zeros24 170)) hH0 (by rw [Array.size_replicate]; exact Lib.lt_pow_nDigits u) h (by rw [Array.size_replicate]; omega)
  rw [Array.size_replicate] at hfmt
  have hnum := num_any u (by omega) h (w.alloc (.cells Lib.zeros24 170)) (Lib.tabIs_alloc htab _)
  have HF := Lib.hid hfmt; have HN := Lib.hid hnum; have HH := Lib.hid hH0
  clear hH0 hfmt hnum hal htab
  go_enter Tryz.func85, Tryz.ntmps85
  go_wp2_with fail
  refine HN.out.mono ?_
  rintro e w' ⟨rfl, rfl⟩
  go_wp2_with fail
  refine HF.out.mono ?_
  rintro e w' ⟨rfl, k, v', dk, rfl, hF⟩
  have hcv : (convert 39 9 (.slice (some ⟨w.heap.size, 0, none⟩) (Lib.nDigits u) 24)).run Tryz.prog ((putRow encB (w.alloc (.cells Lib.zeros24 170)) w.heap.size 0 dk).drewN k) = .ok (.string (decS u)) ((putRow encB (w.alloc (.cells Lib.zeros24 170)) w.heap.size 0 dk).drewN k) := by
    have h := run_convert_bytes_back (P := Tryz.prog) ((putRow encB (w.alloc (.cells Lib.zeros24 170)) w.heap.size 0 dk).drewN k) 39 9 5 ⟨w.heap.size, 0, none⟩ 24 (Lib.decDigits u) Tryz.underlying39 Tryz.underlying5 Tryz.underlying9 (fun j hj => by
      rw [Lib.row_is_numeral hF j hj, Lib.add_plain, World.cell?_drewN]
      exact cell?_putRow encB _ w.heap.size 0 _ dk HH.out (by rw [hF.size, Array.size_replicate]) j (by rw [hF.size]; rw [Lib.decDigits_length] at hj; exact hj))
    rw [Lib.decDigits_length] at h
    exact h
  have HB := Lib.hid (below_put w (.cells Lib.zeros24 170) 0 dk k)
  generalize (putRow encB (w.alloc (.cells Lib.zeros24 170)) w.heap.size 0 dk).drewN k = wn at *
  clear hF HF HN HH
  go_wp2_with fail
  go_ret
  exact ⟨rfl, HB.out⟩
set_option maxRecDepth 100000 in
theorem fmt_any (u : Nat) (h : u < 18446744073709551616) (w : World) (htab : Lib.TabIs Tryz.prog w "internal/strconv.uint64pow10" .u64 Lib.pow10Tab) : Calls Tryz.prog 57 #[.int .u64 (u : Int), .int .i64 10] w fun e w' => e = .returned (.string (decS u)) ∧ Below w.heap.size w w' := by
  by_cases hs : u < 100
  · exact fmt_small u hs w
  have HS := Lib.hid (fmt_int u (by omega) h w htab)
  clear htab
  go_enter Tryz.func57, Tryz.ntmps57
  go_wp2_with fail
  refine HS.out.mono ?_
  rintro e w' ⟨rfl, hb⟩
  have HB := Lib.hid hb
  clear hb
  go_wp2_with fail
  go_ret
  exact ⟨rfl, HB.out⟩
def TabW (w : World) : Prop := Lib.TabIs Tryz.prog w "internal/strconv.uint64pow10" .u64 Lib.pow10Tab
theorem TabW.below {w w' : World} (h : TabW w) (hb : Below w.heap.size w w') : TabW w' := by
  obtain ⟨gn, hg⟩ : ∃ gn, Tryz.prog.globalNamed "internal/strconv.uint64pow10" = some gn := Option.isSome_iff_exists.1 (by kernel_rfl)
  have hc := h.cell hg 0 (by decide)
  unfold TabW Lib.TabIs World.var? at *
  rw [hg] at h ⊢
  simp only [Option.bind_some] at h ⊢
  have hlt : gn < w.heap.size := by
    rcases Nat.lt_or_ge gn w.heap.size with e | e
    · exact e
    · exfalso
      have hn : w.heap[gn]? = none := Array.getElem?_eq_none e
      simp [World.cell?, hn] at hc
  rw [hb.block gn hlt]
  exact h
end Go.Proofs.YtdlpgoackmgdkaaGreatDoor
/- Texts: equal just where the instructions are; a text begins with its name. -/
namespace Go.Proofs.YtdlpgoackmgdkaaGreatDoor
open Go.RowKit
set_option linter.unusedVariables false
theorem str_eq (s t : ByteArray) : (s.toList == t.toList) = decide (s.data.toList = t.data.toList) := by
  rw [ByteArray.toList_eq, ByteArray.toList_eq]
  by_cases h : s.data.toList = t.data.toList
  · rw [h]; simp
  · rw [decide_eq_false h]
    exact beq_eq_false_iff_ne.2 h
theorem data_app (s t : ByteArray) : (s ++ t).data.toList = s.data.toList ++ t.data.toList := by simp [ByteArray.data_append]
theorem data_dec (n : Nat) : (decS n).data.toList = Lib.decDigits n := rfl
def isLet (b : UInt8) : Bool := decide (97 ≤ b.toNat) && decide (b.toNat ≤ 122)
def isDig (b : UInt8) : Bool := decide (48 ≤ b.toNat) && decide (b.toNat ≤ 57)
theorem dig_val (k : Nat) (h : k < 10) : (UInt8.ofNat (48 + k)).toNat = 48 + k := by
  rw [UInt8.toNat_ofNat']; omega
theorem dec_dig : ∀ (n : Nat), ∀ b ∈ Lib.decDigits n, isDig b = true := by
  intro n
  induction n using Nat.strongRecOn with
  | ind n ih =>
    intro b hb
    rw [Lib.decDigits] at hb
    split at hb
    · rename_i h
      rw [List.mem_singleton] at hb
      subst hb
      unfold isDig
      rw [dig_val n h]
      simp; omega
    · rename_i h
      rcases List.mem_append.1 hb with hb | hb
      · exact ih _ (by omega) b hb
      · rw [List.mem_singleton] at hb
        subst hb
        unfold isDig
        rw [dig_val (n % 10) (by omega)]
        simp; omega
def valD (l : List UInt8) : Nat := l.foldl (fun a b => 10 * a + (b.toNat - 48)) 0
theorem valD_dec : ∀ n, valD (Lib.decDigits n) = n := by
  intro n
  induction n using Nat.strongRecOn with
  | ind n ih =>
    rw [Lib.decDigits]
    split
    · rename_i h
      show 10 * 0 + ((UInt8.ofNat (48 + n)).toNat - 48) = n
      rw [dig_val n h]; omega
    · rename_i h
      have e := ih (n / 10) (by omega)
      unfold valD at e ⊢
      rw [List.foldl_append, e]
      show 10 * (n / 10) + ((UInt8.ofNat (48 + n % 10)).toNat - 48) = n
      rw [dig_val (n % 10) (by omega)]; omega
theorem dec_inj {n m : Nat} (h : Lib.decDigits n = Lib.decDigits m) : n = m := by rw [← valD_dec n, h, valD_dec]
theorem dec_head (n : Nat) : ∃ d r, Lib.decDigits n = d :: r ∧ isDig d = true := by
  have hl : 1 ≤ (Lib.decDigits n).length := by rw [Lib.decDigits_length]; exact Lib.nDigits_pos n
  have hd := dec_dig n
  match hm : Lib.decDigits n with
  | [] => rw [hm] at hl; simp at hl
  | d :: r => exact ⟨d, r, rfl, hd d (by rw [hm]; simp)⟩
def tailL (nm a b c : Nat) : List UInt8 := if nm = 0 then [] else if nm = 1 then 32 :: Lib.decDigits a else if nm = 3 then 32 :: (Lib.decDigits a ++ 32 :: Lib.decDigits b) else if nm = 4 then 32 :: Lib.decDigits c else Lib.decDigits a ++ 32 :: Lib.decDigits c
theorem text_data (nm : Nat) (s : ByteArray) (a b c : Nat) : (textN nm s a b c).data.toList = s.data.toList ++ tailL nm a b c := by
  have hb : blank.data.toList = [32] := rfl
  unfold textN tailL
  by_cases h0 : nm = 0
  · rw [if_pos h0, if_pos h0]; simp
  rw [if_neg h0, if_neg h0]
  by_cases h1 : nm = 1
  · rw [if_pos h1, if_pos h1, data_app, data_app, hb, data_dec]; rfl
  rw [if_neg h1, if_neg h1]
  by_cases h3 : nm = 3
  · rw [if_pos h3, if_pos h3]; simp only [data_app, hb, data_dec]; simp
  rw [if_neg h3, if_neg h3]
  by_cases h4 : nm = 4
  · rw [if_pos h4, if_pos h4, data_app, data_app, hb, data_dec]; rfl
  rw [if_neg h4, if_neg h4]
  simp only [data_app, hb, data_dec]; simp
theorem dig_let {d : UInt8} (h : isDig d = true) : isLet d = false := by
  unfold isDig at h; unfold isLet
  simp at h ⊢; omega
theorem name_let : ∀ op, ∀ b ∈ (rowAt op).name, isLet b = true := by
  intro op
  by_cases h : op < 28
  · have : ∀ op, op < 28 → ((rowAt op).name.all isLet) = true := by decide
    exact List.all_eq_true.1 (this op h)
  · rw [rowAt_none (by omega)]; intro b hb; cases hb
theorem name_inj : ∀ x, x < 28 → ∀ y, y < 28 → (rowAt x).name ≠ [] → (rowAt x).name = (rowAt y).name → x = y := by decide
theorem may_row {i : Ins} (h : i.may = true) : (rowAt i.op).name ≠ [] ∧ i.op < 28 ∧ mayN (rowAt i.op).nm i.a i.b i.c = true ∧ ((rowAt i.op).nm = 0 ∨ (rowAt i.op).nm = 1 ∨ (rowAt i.op).nm = 3 ∨ (rowAt i.op).nm = 4 ∨ (rowAt i.op).nm = 12) := by
  rcases row_class i.op with ⟨hn, hr⟩ | ⟨hn, ho, hr⟩
  · exact absurd h (by rw [may_no hr]; decide)
  · exact ⟨hn, ho, by rw [← may_of hn rfl]; exact h, by rcases hr with hr | ⟨hr, _⟩ | ⟨hr, _⟩ | hr | hr <;> simp [hr]⟩
theorem text_list {i : Ins} (h : i.may = true) : i.text.data.toList = (rowAt i.op).name ++ tailL (rowAt i.op).nm i.a i.b i.c := by
  unfold Ins.text
  rw [h, if_pos rfl, text_data]; rfl
theorem mayN_0 {a b c : Nat} (h : mayN 0 a b c = true) : a = 0 ∧ b = 0 ∧ c = 0 := by unfold mayN at h; simp at h; omega
theorem mayN_1 {a b c : Nat} (h : mayN 1 a b c = true) : b = 0 ∧ c = 0 := by unfold mayN at h; simp at h; omega
theorem mayN_3 {a b c : Nat} (h : mayN 3 a b c = true) : c = 0 := by unfold mayN at h; simp at h; omega
theorem mayN_4 {a b c : Nat} (h : mayN 4 a b c = true) : a = 0 ∧ b = 0 := by unfold mayN at h; simp at h; omega
theorem mayN_12 {a b c : Nat} (h : mayN 12 a b c = true) : b = 0 := by unfold mayN at h; simp at h; omega
def byteN (s : ByteArray) (k : Nat) : Nat := (s.data.toList.getD k 0).toNat
theorem index_str (s : ByteArray) (k : Nat) (h : k < s.size) (t : TypeId) (ht : Tryz.prog.underlying t = some .string) (w : World) : (Instr.index t (.string s) (.int .i64 (k : Int))).run Tryz.prog w = .ok (.int .u8 ((byteN s k : Nat) : Int)) w := by
  rw [run_index_string w t s .i64 (k : Int) ht, dif_pos ⟨by omega, by omega⟩]
  have hk : k < s.data.toList.length := by simpa using h
  have e : byteN s k = (s.data.toList[k]).toNat := by unfold byteN; rw [List.getD_eq_getElem?_getD, List.getElem?_eq_getElem hk]; rfl
  rw [e]
  rfl
theorem opHit_eq (s : ByteArray) (k : Nat) : opHit s k = (decide (0 < k) && decide ((rowAt k).name = s.data.toList)) := by unfold opHit; rw [str_eq]; rfl
theorem opOf_name {op : Nat} (h : op < 28) (hn : (rowAt op).name ≠ []) (s : ByteArray) (hs : s.data.toList = (rowAt op).name) : opOf s = op := by
  have h0 : 0 < op := by
    rcases Nat.eq_zero_or_pos op with e | e
    · subst e; exact absurd rfl hn
    · exact e
  refine opOf_at h (by rw [opHit_eq, hs]; simp [h0]) (fun j hj => ?_)
  rw [opHit_eq, hs]
  by_cases e : (rowAt j).name = (rowAt op).name
  · have := name_inj op h j (by omega) hn e.symm
    omega
  · simp [e]
theorem text_size (i : Ins) (h : i.ok) : i.text.size ≤ 64 := by
  have hs : i.text.data.toList.length = i.text.size := by simp
  rw [← hs]
  cases hm : i.may
  · unfold Ins.text; rw [hm]; simp
  · rw [text_list hm, List.length_append]
    have h1 : (rowAt i.op).name.length ≤ 5 := nameS_size i.op
    have ha := h.a; have hb := h.b; have hc := h.c
    have d1 : (Lib.decDigits i.a).length ≤ 20 := decS_size i.a (by omega)
    have d2 : (Lib.decDigits i.b).length ≤ 20 := decS_size i.b (by omega)
    have d3 : (Lib.decDigits i.c).length ≤ 20 := decS_size i.c (by omega)
    unfold tailL
    repeat' split
    all_goals simp
    all_goals omega
/-- The first letters of a text, as a value of their own. -/
def cutS (s : ByteArray) (k : Nat) : ByteArray := s.extract 0 k
theorem cut_run (s : ByteArray) (k : Nat) (h : k ≤ s.size) (t : TypeId) (ht : Tryz.prog.underlying t = some .string) (w : World) : (Instr.sliceAt t (.string s) none (some (.int .i64 (k : Int))) none).run Tryz.prog w = .ok (.string (cutS s k)) w := by
  rw [run_sliceAt_string w t _ _ _ _ ht]
  unfold cutS
  simp [Instr.slice, run_underlying ht, Instr.sliceBounds, run_sliceBound, h]
end Go.Proofs.YtdlpgoackmgdkaaGreatDoor
/- Jumps. -/
namespace Go.Proofs.YtdlpgoackmgdkaaGreatDoor
open Go.RowKit
set_option linter.unusedVariables false
set_option linter.unusedSimpArgs false
def jumpB (op : Nat) : Bool := op == 19 || op == 20
theorem jumps_any (op : Nat) (w : World) : Calls Tryz.prog 112 #[.int .u8 (op : Int)] w fun e w' => e = .returned (.bool (jumpB op)) ∧ w' = w := by
  by_cases h19 : op = 19
  · subst h19
    rw [show jumpB 19 = true from rfl]
    go_enter Tryz.func112, Tryz.ntmps112
    go_wp2_with fail
    go_ret
    exact ⟨rfl, rfl⟩
  · have q19 : ((op : Int) == 19) = false := by simp; omega
    have e : jumpB op = ((op : Int) == 20) := by unfold jumpB; rw [beq_eq_false_iff_ne.2 h19, Bool.false_or]; exact Bool.eq_iff_iff.2 (by simp; omega)
    rw [e]
    clear e h19
    go_enter Tryz.func112, Tryz.ntmps112
    go_wp2_with fail
    go_ret
    exact ⟨by first | rfl | simp, rfl⟩
end Go.Proofs.YtdlpgoackmgdkaaGreatDoor
/- append(b[:], more...). -/
namespace Go.Proofs.YtdlpgoackmgdkaaGreatDoor
open Go.RowKit
set_option linter.unusedVariables false
theorem info_parts {t : TypeId} {z : Value} {s b : Nat} (h : (Tryz.prog.info? t).map (fun i => (i.zero, i.size, i.bytes)) = some (some z, s, b)) : ∃ i, Tryz.prog.info? t = some i ∧ i.zero = some z ∧ i.size = s ∧ i.bytes = b := by
  cases hi : Tryz.prog.info? t with
  | none => rw [hi] at h; simp at h
  | some i => rw [hi] at h; simp at h; exact ⟨i, rfl, h.1, h.2.1, h.2.2⟩
end Go.Proofs.YtdlpgoackmgdkaaGreatDoor
