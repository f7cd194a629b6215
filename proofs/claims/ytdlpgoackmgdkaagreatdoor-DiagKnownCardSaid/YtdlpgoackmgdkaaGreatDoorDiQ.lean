/- What is read of logs, frames and bytes; DiagRuns. -/
import Derived.Test.YtdlpgoackmgdkaaGreatDoorDiO
import Derived.Test.YtdlpgoackmgdkaaGreatDoorArJL
import Derived.OpenShut
namespace Go.Proofs.YtdlpgoackmgdkaaGreatDoor
open Go.RowKit Go.Shelf
set_option linter.unusedVariables false
set_option linter.unusedSimpArgs false
theorem rd_il {w : World} {v : Value} (h : ReadsC w 42 [v]) : ∃ (a : Option Addr) (c : Nat) (l : List Int), v = .slice a l.length c ∧ l.length ≤ c ∧ c ≤ maxLen ∧ IlAt w a l := by
  obtain ⟨a, n, c, e⟩ := rd_shape Tryz.underlying42 h
  cases e
  obtain ⟨hl, hm, C, hs, hr⟩ := reads_sliceN Tryz.underlying42 rd_intCells (by omega) h
  obtain ⟨D, hD⟩ := choose_nat (α := Int) (p := fun i d => (C i).getD 0 undef = .int .i64 d) (fun i hi => by
    obtain ⟨n, hc, _⟩ := reads_int1 Tryz.underlying3 (hr i hi).2
    exact ⟨n, by rw [hc]; rfl⟩)
  obtain ⟨l, hll, hle⟩ := list_of n D 0
  subst hll
  refine ⟨a, c, l, rfl, hl, hm, hs.congr fun i hi j hj => ?_⟩
  obtain rfl : j = 0 := by omega
  rw [hle i hi]
  exact hD i hi
theorem rd_logCells : Tryz.prog.cellsOf 44 = 4 := by kernel_rfl
theorem rd_arrCells : Tryz.prog.cellsOf 46 = 16 := by kernel_rfl
theorem rd_u8Cells : Tryz.prog.cellsOf 5 = 1 := by kernel_rfl
set_option maxRecDepth 10000 in
theorem rd_log {w : World} {v : Value} (h : ReadsC w 44 v.cells.toList ∧ Value.okWide Tryz.prog w .any 0 44 v) :
    ∃ (ia : Option Addr) (ic : Nat) (l : List Int) (base : Nat) (size port : Int), v = .agg #[.slice ia l.length ic, .int .u32 (base : Int), .int .i64 size, .int .i64 port] ∧ base < 4294967296 ∧ (-9223372036854775808 ≤ size ∧ size ≤ 9223372036854775807) ∧ (-9223372036854775808 ≤ port ∧ port ≤ 9223372036854775807) ∧ l.length ≤ ic ∧ ic ≤ maxLen ∧ IlAt w ia l := by
  obtain ⟨cs, rfl, _⟩ := Go.WideShapes.okWide_struct Tryz.underlying44 h.2
  obtain ⟨hl, hf⟩ := reads_struct Tryz.underlying44 h.1
  rw [rd_logCells] at hl
  generalize hcs : (Value.agg cs).cells.toList = l at *
  have hcl : cs.toList = l := hcs
  have h3 := hf 0 _ rfl
  obtain ⟨b, hb, e1⟩ := rd_u32 (hf 1 _ rfl)
  obtain ⟨s, s0, s1, e2⟩ := rd_i64 (hf 2 _ rfl)
  obtain ⟨p, p0, p1, e3⟩ := rd_i64 (hf 3 _ rfl)
  match l, hl with
  | [x, y, z, u], _ =>
    have h4 : ReadsC w 42 [x] := h3
    obtain ⟨a, c, ls, rfl, k1, k2, k3⟩ := rd_il h4
    have e1' : y = .int .u32 (b : Int) := e1
    have e2' : z = .int .i64 s := e2
    have e3' : u = .int .i64 p := e3
    subst e1' e2' e3'
    refine ⟨a, c, ls, b, s, p, ?_, hb, ⟨s0, s1⟩, ⟨p0, p1⟩, k1, k2, k3⟩
    congr 1
    apply Array.toList_inj.1
    rw [hcl]
theorem rd_frame {w : World} {cs : List Value} (h : ReadsC w 46 cs) : ∃ f : Nat → Nat, (∀ j, f j < 4294967296) ∧ ∀ j, j < 16 → cs.getD j undef = .int .u32 (f j : Int) := by
  obtain ⟨H, enc, m, y, hf⟩ := h
  obtain ⟨xs, n, _, _, hl, hlen, hx⟩ := DataW.trod_array Tryz.underlying46 hf
  obtain ⟨D, hD⟩ := choose_nat (α := Nat) (n := 16) (p := fun j d => d < 4294967296 ∧ cs.getD j undef = .int .u32 (d : Int)) (fun j hj => by
    have h1 := hx j hj
    rw [List.getElem?_eq_getElem (by omega), rd_u32Cells, Nat.mul_one] at h1
    obtain ⟨q, q0, q1⟩ := rd_u32 (w := w) (cs := cs) (o := j) (by rw [rd_u32Cells]; exact ⟨H, enc, n, _, h1⟩)
    exact ⟨q, q0, q1⟩)
  refine ⟨fun j => if j < 16 then D j else 0, fun j => ?_, fun j hj => ?_⟩
  · show (if j < 16 then D j else 0) < _
    split
    · exact (hD j (by assumption)).1
    · decide
  · show _ = Value.int .u32 ((if j < 16 then D j else 0 : Nat) : Int)
    rw [if_pos hj]; exact (hD j hj).2
theorem rd_frames {w : World} {a : Option Addr} {len cap : Nat} (h : ReadsC w 47 [.slice a len cap]) : ∃ F : Nat → Nat → Nat, (∀ i j, F i j < 4294967296) ∧ len ≤ cap ∧ cap ≤ maxLen ∧ FrAt w a len F := by
  obtain ⟨hl, hm, C, hs, hr⟩ := reads_sliceN Tryz.underlying47 rd_arrCells (by omega) h
  obtain ⟨D, hD⟩ := choose_nat (α := Nat → Nat) (p := fun i f => (∀ j, f j < 4294967296) ∧ ∀ j, j < 16 → (C i).getD j undef = .int .u32 (f j : Int)) (fun i hi => rd_frame (hr i hi).2)
  refine ⟨fun i j => if i < len then D i j else 0, fun i j => ?_, hl, hm, hs.congr fun i hi j hj => ?_⟩
  · show (if i < len then D i j else 0) < _
    split
    · exact (hD i (by assumption)).1 j
    · decide
  · show _ = Value.int .u32 ((if i < len then D i j else 0 : Nat) : Int)
    rw [if_pos hi]; exact (hD i hi).2 j hj
theorem rd_bytes {w : World} {a : Option Addr} {len cap : Nat} (h : ReadsC w 39 [.slice a len cap]) : ∃ d : Nat → Nat, (∀ j, d j < 256) ∧ len ≤ cap ∧ cap ≤ maxLen ∧ DbAt w a len d := by
  obtain ⟨hl, hm, C, hs, hr⟩ := reads_sliceN Tryz.underlying39 rd_u8Cells (by omega) h
  obtain ⟨D, hD⟩ := choose_nat (α := Nat) (p := fun i d => d < 256 ∧ (C i).getD 0 undef = .int .u8 (d : Int)) (fun i hi => by
    obtain ⟨n, hc, hw⟩ := reads_int1 Tryz.underlying5 (hr i hi).2
    obtain ⟨h0, h1⟩ := bounds_u8 hw
    obtain ⟨q, rfl⟩ := Int.eq_ofNat_of_zero_le h0
    exact ⟨q, by omega, by rw [hc]; rfl⟩)
  refine ⟨fun i => if i < len then D i else 0, fun i => ?_, hl, hm, hs.congr fun i hi j hj => ?_⟩
  · show (if i < len then D i else 0) < _
    split
    · exact (hD i (by assumption)).1
    · decide
  · obtain rfl : j = 0 := by omega
    show _ = Value.int .u8 ((if i < len then D i else 0 : Nat) : Int)
    rw [if_pos hi]; exact (hD i hi).2
set_option maxRecDepth 100000 in
set_option maxHeartbeats 4000000 in
theorem druns_any (l : List Int) (ia : Option Addr) (ic base : Nat) (size port : Int) (fa : Option Addr) (N fc : Nat) (F : Nat → Nat → Nat) (w : World) (hA : IlAt w ia l) (hm : l.length ≤ 9223372036854775807) (hb0 : base < 4294967296) (hFr : FrAt w fa N F) (hF : ∀ i j, F i j < 4294967296) (hL : LibW w) :
    Calls Tryz.prog 6 #[.agg #[.slice ia l.length ic, .int .u32 (base : Int), .int .i64 size, .int .i64 port], .slice fa N fc] w fun e w' => e = .returned (.bool true) ∧ Below w.heap.size w w' := by
  have HL := Lib.hid hL
  have HA := Lib.hid hA
  have HFr := Lib.hid hFr
  have HFF := Lib.hid hF
  obtain ⟨m, hn⟩ : ∃ m, m = l.length := ⟨_, rfl⟩
  rw [← hn] at hm ⊢
  have HN := Lib.hid hn
  obtain ⟨w1, hw1⟩ : ∃ x, x = w.alloc (.cells #[.slice ia m ic, .int .u32 (base : Int), .int .i64 size, .int .i64 port] 44) := ⟨_, rfl⟩
  have B2 : Hid (Below w.heap.size w w1) := by rw [hw1]; exact alloc_below _ _
  have K1 : Hid (w1.heap[w.heap.size]? = some (.cells #[.slice ia m ic, .int .u32 (base : Int), .int .i64 size, .int .i64 port] 44 (0, 0))) := by rw [hw1]; exact heap_alloc_new _ _
  obtain ⟨g, hg⟩ : ∃ g, g = w.heap.size := ⟨_, rfl⟩
  have HW1 := Lib.hid hw1
  rw [← hg] at K1
  have HG := Lib.hid hg
  clear hL hA hFr hF hn hw1 hg
  have q0 : w1.cell? ⟨g, 0, none⟩ = some (.slice ia m ic) := cell_row (j := 0) K1.out rfl
  have q1 : w1.cell? ⟨g, 1, none⟩ = some (.int .u32 (base : Int)) := cell_row (j := 1) K1.out rfl
  have q2 : w1.cell? ⟨g, 2, none⟩ = some (.int .i64 size) := cell_row (j := 2) K1.out rfl
  have q3 : w1.cell? ⟨g, 3, none⟩ = some (.int .i64 port) := cell_row (j := 3) K1.out rfl
  have lg := heap_lt K1.out
  go_enter Tryz.func6, Tryz.ntmps6
  go_upto_region 1 with fail
  rw [← HW1.out, ← HG.out]
  clear HW1
  by_cases h6 : m ≤ 1000
  case neg =>
    have t1 : decide (1000 < (m : Int)) = true := decide_eq_true (by omega)
    have HWK := Lib.hid (works29_any w1 (HL.out.below B2.out))
    go_wp2_with fail
    refine HWK.out.mono ?_
    rintro e w9 ⟨rfl, hb9⟩
    have B9 : Hid (Below w.heap.size w w9) := B2.out.trans (hb9.mono B2.out.size)
    clear HWK hb9
    go_wp2_with fail
    go_ret
    exact ⟨rfl, B9.out⟩
  have t1 : decide (1000 < (m : Int)) = false := decide_eq_false (by omega)
  by_cases h7 : N ≤ 200
  case neg =>
    have t2 : decide (200 < (N : Int)) = true := decide_eq_true (by omega)
    have HWK := Lib.hid (works29_any w1 (HL.out.below B2.out))
    go_wp2_with fail
    refine HWK.out.mono ?_
    rintro e w9 ⟨rfl, hb9⟩
    have B9 : Hid (Below w.heap.size w w9) := B2.out.trans (hb9.mono B2.out.size)
    clear HWK hb9
    go_wp2_with fail
    go_ret
    exact ⟨rfl, B9.out⟩
  have t2 : decide (200 < (N : Int)) = false := decide_eq_false (by omega)
  have HO := Lib.hid (other29_any ia m ic base size port w1)
  have HM := Lib.hid (fun W hW => rmay29_any l ia ic base size port W (HA.out.below hW) (by rw [← HN.out]; exact hm) hb0)
  rw [← HN.out] at HM
  go_wp2_with fail
  refine HO.out.mono ?_
  rintro e w2 ⟨rfl, hb⟩
  have B3 : Hid (Below w.heap.size w w2) := B2.out.trans (hb.mono B2.out.size)
  have K2 := Lib.hid (kept K1.out hb)
  clear HO hb B2 K1 q0 q1 q2 q3 lg
  cases hmay : mayD l base size port
  case false =>
    rw [hmay] at HM
    go_wp2_with fail
    refine (HM.out _ B3.out).mono ?_
    rintro e w3 ⟨rfl, hb⟩
    have B2 : Hid (Below w.heap.size w w3) := B3.out.trans (hb.mono B3.out.size)
    clear HM hb B3 K2
    have HWK := Lib.hid (works29_any w3 (HL.out.below B2.out))
    go_wp2_with fail
    refine HWK.out.mono ?_
    rintro e w9 ⟨rfl, hb9⟩
    have B9 : Hid (Below w.heap.size w w9) := B2.out.trans (hb9.mono B2.out.size)
    clear HWK hb9
    go_wp2_with fail
    go_ret
    exact ⟨rfl, B9.out⟩
  rw [hmay] at HM
  have HMAY := Lib.hid hmay
  clear hmay
  go_wp2_with fail
  refine (HM.out _ B3.out).mono ?_
  rintro e w3 ⟨rfl, hb⟩
  have B2 : Hid (Below w.heap.size w w3) := B3.out.trans (hb.mono B3.out.size)
  have K3 := Lib.hid (kept K2.out hb)
  clear HM hb B3 K2
  have q0 : w3.cell? ⟨g, 0, none⟩ = some (.slice ia m ic) := cell_row (j := 0) K3.out rfl
  have q1 : w3.cell? ⟨g, 1, none⟩ = some (.int .u32 (base : Int)) := cell_row (j := 1) K3.out rfl
  have q2 : w3.cell? ⟨g, 2, none⟩ = some (.int .i64 size) := cell_row (j := 2) K3.out rfl
  have q3 : w3.cell? ⟨g, 3, none⟩ = some (.int .i64 port) := cell_row (j := 3) K3.out rfl
  have lg := heap_lt K3.out
  have HR := Lib.hid (runs_any l ia ic base size port fa N fc F w3 (HA.out.below B2.out) (by rw [← HN.out]; exact hm) hb0 HMAY.out (SliceN.below HFr.out B2.out) HFF.out h7 (HL.out.below B2.out))
  rw [← HN.out] at HR
  go_wp2_with fail
  refine HR.out.mono ?_
  rintro e w4 ⟨⟨db, rfl, _, _⟩, hb⟩
  have B3 : Hid (Below w.heap.size w w4) := B2.out.trans (hb.mono B2.out.size)
  clear HR hb B2 K3 q0 q1 q2 q3 lg
  have B2 := Lib.hid B3.out
  generalize bytesN m size = nb at *
  have HWK := Lib.hid (works29_any w4 (HL.out.below B2.out))
  go_wp2_with fail
  refine HWK.out.mono ?_
  rintro e w9 ⟨rfl, hb9⟩
  have B9 : Hid (Below w.heap.size w w9) := B2.out.trans (hb9.mono B2.out.size)
  clear HWK hb9
  go_wp2_with fail
  go_ret
  exact ⟨rfl, B9.out⟩
theorem druns_walk (v0 : Value) (a1 : Option Addr) (len1 cap1 : Nat) (w : World) (h0 : ReadsC w 44 v0.cells.toList ∧ Value.okWide Tryz.prog w .any 0 44 v0) (h1 : ReadsC w 47 [.slice a1 len1 cap1]) (hL : LibW w) :
    Calls Tryz.prog 6 #[v0, .slice a1 len1 cap1] w fun e w' => e = .returned (.bool true) ∧ Below w.heap.size w w' := by
  obtain ⟨ia, ic, l, base, size, port, rfl, hb, _, _, hc, hcm, hA⟩ := rd_log h0
  obtain ⟨F, hF, _, _, hFr⟩ := rd_frames h1
  unfold maxLen at hcm
  exact druns_any l ia ic base size port a1 len1 cap1 F w hA (by omega) hb hFr hF hL
end Go.Proofs.YtdlpgoackmgdkaaGreatDoor
