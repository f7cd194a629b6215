/- DiagReads: what is told of any bytes. -/
import Derived.Test.YtdlpgoackmgdkaaGreatDoorDiQ
namespace Go.Proofs.YtdlpgoackmgdkaaGreatDoor
open Go.RowKit Go.Shelf
set_option linter.unusedVariables false
set_option linter.unusedSimpArgs false
/-- Read's two ways out at its head. -/
def noE (l : List Int) (base : Nat) (size port : Int) : Int := if mayD l base size port then 40 else 2
set_option maxRecDepth 100000 in
set_option maxHeartbeats 4000000 in
theorem dread_no (l : List Int) (ia : Option Addr) (ic base : Nat) (size port : Int) (da : Option Addr) (len dc : Nat) (w : World) (hA : IlAt w ia l) (hm : l.length ≤ 9223372036854775807) (hb0 : base < 4294967296) (hno : mayD l base size port = true → len < bytesN l.length size) :
    Calls Tryz.prog 23 #[.agg #[.slice ia l.length ic, .int .u32 (base : Int), .int .i64 size, .int .i64 port], .slice da len dc] w fun e w' => e = .returned (.tuple #[.slice none 0 0, .int .u32 0, .int .i64 (noE l base size port)]) ∧ Below w.heap.size w w' := by
  have HBY := Lib.hid (fun (W : World) (hW : Below w.heap.size w W) => dbytes_any l ia ic base size port W (hA.below hW) hm hb0)
  have HE : Hid (noE l base size port = if mayD l base size port then 40 else 2) := rfl
  have hpos : 4 ≤ bytesN l.length size := by unfold bytesN; omega
  generalize noE l base size port = er at *
  generalize mayD l base size port = may at *
  obtain ⟨m, hmm⟩ : ∃ m, m = l.length := ⟨_, rfl⟩
  rw [← hmm] at HBY hm hno hpos ⊢
  have hbr : bytesR may m size = if may then ((bytesN m size : Nat) : Int) else 0 := rfl
  rw [hbr] at HBY
  generalize bytesN m size = nb at *
  obtain ⟨w1, hw1⟩ : ∃ x, x = (w.alloc (.cells #[.slice ia m ic, .int .u32 (base : Int), .int .i64 size, .int .i64 port] 44)).alloc (.cells #[.slice da len dc] 39) := ⟨_, rfl⟩
  have B2 : Hid (Below w.heap.size w w1) := by rw [hw1]; exact (alloc_below _ _).alloc (by simp) _
  have K2 : Hid (w1.heap[w.heap.size]? = some (.cells #[.slice ia m ic, .int .u32 (base : Int), .int .i64 size, .int .i64 port] 44 (0, 0))) := by
    rw [hw1]; exact (heap_alloc_old _ _ (by simp)).trans (heap_alloc_new _ _)
  have D2 : Hid (w1.heap[w.heap.size + 1]? = some (.cells #[.slice da len dc] 39 (0, 0))) := by
    rw [hw1]
    have := heap_alloc_new (w.alloc (.cells #[.slice ia m ic, .int .u32 (base : Int), .int .i64 size, .int .i64 port] 44)) (.cells #[.slice da len dc] 39)
    have hs : (w.alloc (.cells #[.slice ia m ic, .int .u32 (base : Int), .int .i64 size, .int .i64 port] 44)).heap.size = w.heap.size + 1 := by simp
    rw [hs] at this; exact this
  have HW1 := Lib.hid hw1
  obtain ⟨g, hg⟩ : ∃ g, g = w.heap.size := ⟨_, rfl⟩
  rw [← hg] at K2 D2
  have HGx := Lib.hid hg
  clear hmm hw1 hg hA hbr
  go_enter Tryz.func23, Tryz.ntmps23
  go_upto_region 1 with fail
  rw [← HW1.out, ← HGx.out]
  clear HW1
  have q0 : w1.cell? ⟨g, 0, none⟩ = some (.slice ia m ic) := cell_row (j := 0) K2.out rfl
  have q1 : w1.cell? ⟨g, 1, none⟩ = some (.int .u32 (base : Int)) := cell_row (j := 1) K2.out rfl
  have q2 : w1.cell? ⟨g, 2, none⟩ = some (.int .i64 size) := cell_row (j := 2) K2.out rfl
  have q3 : w1.cell? ⟨g, 3, none⟩ = some (.int .i64 port) := cell_row (j := 3) K2.out rfl
  go_step3
  cases may
  case false =>
    have HBT : Hid (∀ W, Below w.heap.size w W → Calls Tryz.prog 26 #[.agg #[.slice ia m ic, .int .u32 (base : Int), .int .i64 size, .int .i64 port]] W fun e w' => e = .returned (.int .i64 0) ∧ Below W.heap.size W w') := HBY.out
    clear HBY
    go_wp2_with fail
    refine (HBT.out _ B2.out).mono ?_
    rintro e w2 ⟨rfl, hb⟩
    have B2 : Hid (Below w.heap.size w w2) := B2.out.trans (hb.mono B2.out.size)
    clear hb q0 q1 q2 q3 HBT hno
    go_wp2_with fail
    rw [Exit.noGoto_ret]
    go_ret3
    exact ⟨by rw [HE.out]; rfl, B2.out⟩
  have hno2 := hno rfl
  have HBT : Hid (∀ W, Below w.heap.size w W → Calls Tryz.prog 26 #[.agg #[.slice ia m ic, .int .u32 (base : Int), .int .i64 size, .int .i64 port]] W fun e w' => e = .returned (.int .i64 (nb : Int)) ∧ Below W.heap.size W w') := HBY.out
  clear HBY
  go_wp2_with fail
  refine (HBT.out _ B2.out).mono ?_
  rintro e w2 ⟨rfl, hb⟩
  have B2 : Hid (Below w.heap.size w w2) := B2.out.trans (hb.mono B2.out.size)
  have D2 := Lib.hid (kept D2.out hb)
  clear hb q0 q1 q2 q3 HBT hno
  have t1 : ((nb : Int) == 0) = false := beq_eq_false_iff_ne.2 (by omega)
  have t2 : decide ((len : Int) < (nb : Int)) = true := decide_eq_true (by omega)
  have q0 : w2.cell? ⟨g + 1, 0, none⟩ = some (.slice da len dc) := cell_row (j := 0) D2.out rfl
  have lg1 := heap_lt D2.out
  go_wp2_with fail
  rw [Exit.noGoto_ret]
  go_ret3
  exact ⟨by rw [HE.out]; rfl, B2.out⟩
set_option maxRecDepth 100000 in
set_option maxHeartbeats 16000000 in
theorem dreads_out (l : List Int) (ia : Option Addr) (ic base : Nat) (size port : Int) (da : Option Addr) (len dc : Nat) (d : Nat → Nat) (w : World) (hA : IlAt w ia l) (hm : l.length ≤ 9223372036854775807) (hb0 : base < 4294967296) (hD : DbAt w da len d) (hd : ∀ j, d j < 256) (hl : len ≤ dc) (hdc : dc ≤ 9223372036854775807) (hL : LibW w) (hout : ¬ (l.length ≤ 1000 ∧ len ≤ 20000)) :
    Calls Tryz.prog 7 #[.agg #[.slice ia l.length ic, .int .u32 (base : Int), .int .i64 size, .int .i64 port], .slice da len dc] w fun e w' => e = .returned (.bool true) ∧ Below w.heap.size w w' := by
  have HL := Lib.hid hL
  have HA := Lib.hid hA
  have HD := Lib.hid hD
  have HDD := Lib.hid hd
  obtain ⟨m, hn⟩ : ∃ m, m = l.length := ⟨_, rfl⟩
  rw [← hn] at hm ⊢
  have HN := Lib.hid hn
  obtain ⟨w1, hw1⟩ : ∃ x, x = w.alloc (.cells #[.slice ia m ic, .int .u32 (base : Int), .int .i64 size, .int .i64 port] 44) := ⟨_, rfl⟩
  have B2 : Hid (Below w.heap.size w w1) := by rw [hw1]; exact alloc_below _ _
  have K1 : Hid (w1.heap[w.heap.size]? = some (.cells #[.slice ia m ic, .int .u32 (base : Int), .int .i64 size, .int .i64 port] 44 (0, 0))) := by rw [hw1]; exact heap_alloc_new _ _
  obtain ⟨g, hg⟩ : ∃ g, g = w.heap.size := ⟨_, rfl⟩
  have HW1 := Lib.hid hw1
  rw [← hg] at K1
  have HG := Lib.hid hg
  clear hL hA hD hd hn hw1 hg
  have q0 : w1.cell? ⟨g, 0, none⟩ = some (.slice ia m ic) := cell_row (j := 0) K1.out rfl
  have q1 : w1.cell? ⟨g, 1, none⟩ = some (.int .u32 (base : Int)) := cell_row (j := 1) K1.out rfl
  have q2 : w1.cell? ⟨g, 2, none⟩ = some (.int .i64 size) := cell_row (j := 2) K1.out rfl
  have q3 : w1.cell? ⟨g, 3, none⟩ = some (.int .i64 port) := cell_row (j := 3) K1.out rfl
  have lg := heap_lt K1.out
  go_enter Tryz.func7, Tryz.ntmps7
  go_upto_region 1 with fail
  rw [← HW1.out, ← HG.out]
  clear HW1
  by_cases h6 : m ≤ 1000
  case neg =>
    have t1 : decide (1000 < (m : Int)) = true := decide_eq_true (by omega)
    have HWK := Lib.hid (works29_any w1 (HL.out.below B2.out))
    go_wp2_with fail
    refine HWK.out.mono ?_
    rintro e w9 ⟨rfl, hb9⟩
    have B9 : Hid (Below w.heap.size w w9) := B2.out.trans (hb9.mono B2.out.size)
    clear HWK hb9
    go_wp2_with fail
    go_ret
    exact ⟨rfl, B9.out⟩
  have t1 : decide (1000 < (m : Int)) = false := decide_eq_false (by omega)
  by_cases h7 : len ≤ 20000
  case neg =>
    have t2 : decide (20000 < (len : Int)) = true := decide_eq_true (by omega)
    have HWK := Lib.hid (works29_any w1 (HL.out.below B2.out))
    go_wp2_with fail
    refine HWK.out.mono ?_
    rintro e w9 ⟨rfl, hb9⟩
    have B9 : Hid (Below w.heap.size w w9) := B2.out.trans (hb9.mono B2.out.size)
    clear HWK hb9
    go_wp2_with fail
    go_ret
    exact ⟨rfl, B9.out⟩
  exact absurd ⟨by rw [← HN.out]; exact h6, h7⟩ hout
set_option maxRecDepth 100000 in
set_option maxHeartbeats 16000000 in
theorem dreads_no (l : List Int) (ia : Option Addr) (ic base : Nat) (size port : Int) (da : Option Addr) (len dc : Nat) (d : Nat → Nat) (w : World) (hA : IlAt w ia l) (hm : l.length ≤ 9223372036854775807) (hb0 : base < 4294967296) (hD : DbAt w da len d) (hd : ∀ j, d j < 256) (hl : len ≤ dc) (hdc : dc ≤ 9223372036854775807) (hL : LibW w) (h6 : l.length ≤ 1000) (h7 : len ≤ 20000) (hno : mayD l base size port = true → len < bytesN l.length size) :
    Calls Tryz.prog 7 #[.agg #[.slice ia l.length ic, .int .u32 (base : Int), .int .i64 size, .int .i64 port], .slice da len dc] w fun e w' => e = .returned (.bool true) ∧ Below w.heap.size w w' := by
  have HL := Lib.hid hL
  have HA := Lib.hid hA
  have HD := Lib.hid hD
  have HDD := Lib.hid hd
  obtain ⟨m, hn⟩ : ∃ m, m = l.length := ⟨_, rfl⟩
  rw [← hn] at hm ⊢
  have HN := Lib.hid hn
  obtain ⟨w1, hw1⟩ : ∃ x, x = w.alloc (.cells #[.slice ia m ic, .int .u32 (base : Int), .int .i64 size, .int .i64 port] 44) := ⟨_, rfl⟩
  have B2 : Hid (Below w.heap.size w w1) := by rw [hw1]; exact alloc_below _ _
  have K1 : Hid (w1.heap[w.heap.size]? = some (.cells #[.slice ia m ic, .int .u32 (base : Int), .int .i64 size, .int .i64 port] 44 (0, 0))) := by rw [hw1]; exact heap_alloc_new _ _
  obtain ⟨g, hg⟩ : ∃ g, g = w.heap.size := ⟨_, rfl⟩
  have HW1 := Lib.hid hw1
  rw [← hg] at K1
  have HG := Lib.hid hg
  clear hL hA hD hd hn hw1 hg
  have q0 : w1.cell? ⟨g, 0, none⟩ = some (.slice ia m ic) := cell_row (j := 0) K1.out rfl
  have q1 : w1.cell? ⟨g, 1, none⟩ = some (.int .u32 (base : Int)) := cell_row (j := 1) K1.out rfl
  have q2 : w1.cell? ⟨g, 2, none⟩ = some (.int .i64 size) := cell_row (j := 2) K1.out rfl
  have q3 : w1.cell? ⟨g, 3, none⟩ = some (.int .i64 port) := cell_row (j := 3) K1.out rfl
  have lg := heap_lt K1.out
  go_enter Tryz.func7, Tryz.ntmps7
  go_upto_region 1 with fail
  rw [← HW1.out, ← HG.out]
  clear HW1
  rw [← HN.out] at h6 hno
  have t1 : decide (1000 < (m : Int)) = false := decide_eq_false (by omega)
  have t2 : decide (20000 < (len : Int)) = false := decide_eq_false (by omega)
  have HOT := Lib.hid (fun W => other29_any ia m ic base size port W)
  have HM := Lib.hid (fun W hW => rmay29_any l ia ic base size port W (HA.out.below hW) (by rw [← HN.out]; exact hm) hb0)
  rw [← HN.out] at HM
  have HR := Lib.hid (dread_no l ia ic base size port da len dc w1 (HA.out.below B2.out) (by rw [← HN.out]; exact hm) hb0 (by rw [← HN.out]; exact hno))
  rw [← HN.out] at HR
  go_wp2_with fail
  refine HR.out.mono ?_
  rintro e w2 ⟨rfl, hb⟩
  have K1 := Lib.hid (kept K1.out hb)
  try have H6 : Hid (ChAt w2 a6 l (chs m size.toNat d)) := SliceN.below H6.out hb
  have B2 : Hid (Below w.heap.size w w2) := B2.out.trans (hb.mono B2.out.size)
  clear hb
  clear q0 q1 q2 q3 lg HR t1 t2
  have q0 : w2.cell? ⟨g, 0, none⟩ = some (.slice ia m ic) := cell_row (j := 0) K1.out rfl
  have q1 : w2.cell? ⟨g, 1, none⟩ = some (.int .u32 (base : Int)) := cell_row (j := 1) K1.out rfl
  have q2 : w2.cell? ⟨g, 2, none⟩ = some (.int .i64 size) := cell_row (j := 2) K1.out rfl
  have q3 : w2.cell? ⟨g, 3, none⟩ = some (.int .i64 port) := cell_row (j := 3) K1.out rfl
  have lg := heap_lt K1.out
  have HE : Hid (noE l base size port = if mayD l base size port then 40 else 2) := rfl
  cases hmay : mayD l base size port
  case false =>
    rw [hmay] at HM HE
    rw [HE.out, if_neg (by decide)]
    clear hno hmay
    -- the log is turned into the document's
    have HO := Lib.hid (HOT.out w2)
    go_wp2_with fail
    refine HO.out.mono ?_
    rintro e w4 ⟨rfl, hb⟩
    have K1 := Lib.hid (kept K1.out hb)
    try have H6 : Hid (ChAt w4 a6 l (chs m size.toNat d)) := SliceN.below H6.out hb
    have B2 : Hid (Below w.heap.size w w4) := B2.out.trans (hb.mono B2.out.size)
    clear hb
    clear HO q0 q1 q2 q3 lg
    go_wp2_with fail
    refine (HM.out _ B2.out).mono ?_
    rintro e w5 ⟨rfl, hb⟩
    have K1 := Lib.hid (kept K1.out hb)
    try have H6 : Hid (ChAt w5 a6 l (chs m size.toNat d)) := SliceN.below H6.out hb
    have B2 : Hid (Below w.heap.size w w5) := B2.out.trans (hb.mono B2.out.size)
    clear hb
    have q0 : w5.cell? ⟨g, 0, none⟩ = some (.slice ia m ic) := cell_row (j := 0) K1.out rfl
    have q1 : w5.cell? ⟨g, 1, none⟩ = some (.int .u32 (base : Int)) := cell_row (j := 1) K1.out rfl
    have q2 : w5.cell? ⟨g, 2, none⟩ = some (.int .i64 size) := cell_row (j := 2) K1.out rfl
    have q3 : w5.cell? ⟨g, 3, none⟩ = some (.int .i64 port) := cell_row (j := 3) K1.out rfl
    have lg := heap_lt K1.out
    clear HM HOT HE q0 q1 q2 q3 lg
    have HWK := Lib.hid (works29_any w5 (HL.out.below B2.out))
    go_wp2_with fail
    refine HWK.out.mono ?_
    rintro e w9 ⟨rfl, hb9⟩
    have B9 : Hid (Below w.heap.size w w9) := B2.out.trans (hb9.mono B2.out.size)
    clear HWK hb9
    go_wp2_with fail
    go_ret
    exact ⟨rfl, B9.out⟩
  have hno2 := hno hmay
  obtain ⟨hG, hsz, _, _, _, _⟩ := mayD_ok hmay
  have hG1 := hG.m16; have hG2 := hG.sm
  have hgm : (lgOf l base size port).m = l.length := by unfold lgOf LG.m; simp
  have hgs : (lgOf l base size port).size = size.toNat := rfl
  rw [hgm, ← HN.out] at hG1
  rw [hgs] at hG2
  have HBY := Lib.hid (fun W => rbytes_any ia m ic base size port W hG1 (by omega) (by omega))
  rw [hmay] at HM HE
  rw [HE.out, if_pos rfl]
  generalize bytesN m size = nb at *
  have t3 : decide (len < nb) = true := decide_eq_true (by omega)
  clear hno hmay hgm hgs hG hsz
  -- the log is turned into the document's
  have HO := Lib.hid (HOT.out w2)
  go_wp2_with fail
  refine HO.out.mono ?_
  rintro e w4 ⟨rfl, hb⟩
  have K1 := Lib.hid (kept K1.out hb)
  try have H6 : Hid (ChAt w4 a6 l (chs m size.toNat d)) := SliceN.below H6.out hb
  have B2 : Hid (Below w.heap.size w w4) := B2.out.trans (hb.mono B2.out.size)
  clear hb
  clear HO q0 q1 q2 q3 lg
  go_wp2_with fail
  refine (HM.out _ B2.out).mono ?_
  rintro e w5 ⟨rfl, hb⟩
  have K1 := Lib.hid (kept K1.out hb)
  try have H6 : Hid (ChAt w5 a6 l (chs m size.toNat d)) := SliceN.below H6.out hb
  have B2 : Hid (Below w.heap.size w w5) := B2.out.trans (hb.mono B2.out.size)
  clear hb
  have q0 : w5.cell? ⟨g, 0, none⟩ = some (.slice ia m ic) := cell_row (j := 0) K1.out rfl
  have q1 : w5.cell? ⟨g, 1, none⟩ = some (.int .u32 (base : Int)) := cell_row (j := 1) K1.out rfl
  have q2 : w5.cell? ⟨g, 2, none⟩ = some (.int .i64 size) := cell_row (j := 2) K1.out rfl
  have q3 : w5.cell? ⟨g, 3, none⟩ = some (.int .i64 port) := cell_row (j := 3) K1.out rfl
  have lg := heap_lt K1.out
  -- the log is turned into the document's
  have HO := Lib.hid (HOT.out w5)
  go_wp2_with fail
  refine HO.out.mono ?_
  rintro e w4 ⟨rfl, hb⟩
  have K1 := Lib.hid (kept K1.out hb)
  try have H6 : Hid (ChAt w4 a6 l (chs m size.toNat d)) := SliceN.below H6.out hb
  have B2 : Hid (Below w.heap.size w w4) := B2.out.trans (hb.mono B2.out.size)
  clear hb
  clear HO q0 q1 q2 q3 lg
  go_wp2_with fail
  refine (HBY.out _).mono ?_
  rintro e w6 ⟨rfl, hb⟩
  try have H6 : Hid (ChAt w6 a6 l (chs m size.toNat d)) := SliceN.below H6.out hb
  have B2 : Hid (Below w.heap.size w w6) := B2.out.trans (hb.mono B2.out.size)
  clear hb
  clear HM HOT HE HBY K1
  have HWK := Lib.hid (works29_any w6 (HL.out.below B2.out))
  go_wp2_with fail
  refine HWK.out.mono ?_
  rintro e w9 ⟨rfl, hb9⟩
  have B9 : Hid (Below w.heap.size w w9) := B2.out.trans (hb9.mono B2.out.size)
  clear HWK hb9
  go_wp2_with fail
  go_ret
  exact ⟨rfl, B9.out⟩
set_option maxRecDepth 100000 in
set_option maxHeartbeats 16000000 in
theorem dreads_yes (l : List Int) (ia : Option Addr) (ic base : Nat) (size port : Int) (da : Option Addr) (len dc : Nat) (d : Nat → Nat) (w : World) (hA : IlAt w ia l) (hm : l.length ≤ 9223372036854775807) (hb0 : base < 4294967296) (hD : DbAt w da len d) (hd : ∀ j, d j < 256) (hl : len ≤ dc) (hdc : dc ≤ 9223372036854775807) (hL : LibW w) (h6 : l.length ≤ 1000) (h7 : len ≤ 20000) (hmay : mayD l base size port = true) (hlen : bytesN l.length size ≤ len) :
    Calls Tryz.prog 7 #[.agg #[.slice ia l.length ic, .int .u32 (base : Int), .int .i64 size, .int .i64 port], .slice da len dc] w fun e w' => e = .returned (.bool true) ∧ Below w.heap.size w w' := by
  have HL := Lib.hid hL
  have HA := Lib.hid hA
  have HD := Lib.hid hD
  have HDD := Lib.hid hd
  obtain ⟨m, hn⟩ : ∃ m, m = l.length := ⟨_, rfl⟩
  rw [← hn] at hm ⊢
  have HN := Lib.hid hn
  obtain ⟨w1, hw1⟩ : ∃ x, x = w.alloc (.cells #[.slice ia m ic, .int .u32 (base : Int), .int .i64 size, .int .i64 port] 44) := ⟨_, rfl⟩
  have B2 : Hid (Below w.heap.size w w1) := by rw [hw1]; exact alloc_below _ _
  have K1 : Hid (w1.heap[w.heap.size]? = some (.cells #[.slice ia m ic, .int .u32 (base : Int), .int .i64 size, .int .i64 port] 44 (0, 0))) := by rw [hw1]; exact heap_alloc_new _ _
  obtain ⟨g, hg⟩ : ∃ g, g = w.heap.size := ⟨_, rfl⟩
  have HW1 := Lib.hid hw1
  rw [← hg] at K1
  have HG := Lib.hid hg
  clear hL hA hD hd hn hw1 hg
  have q0 : w1.cell? ⟨g, 0, none⟩ = some (.slice ia m ic) := cell_row (j := 0) K1.out rfl
  have q1 : w1.cell? ⟨g, 1, none⟩ = some (.int .u32 (base : Int)) := cell_row (j := 1) K1.out rfl
  have q2 : w1.cell? ⟨g, 2, none⟩ = some (.int .i64 size) := cell_row (j := 2) K1.out rfl
  have q3 : w1.cell? ⟨g, 3, none⟩ = some (.int .i64 port) := cell_row (j := 3) K1.out rfl
  have lg := heap_lt K1.out
  go_enter Tryz.func7, Tryz.ntmps7
  go_upto_region 1 with fail
  rw [← HW1.out, ← HG.out]
  clear HW1
  rw [← HN.out] at h6 hlen
  have t1 : decide (1000 < (m : Int)) = false := decide_eq_false (by omega)
  have t2 : decide (20000 < (len : Int)) = false := decide_eq_false (by omega)
  have HOT := Lib.hid (fun W => other29_any ia m ic base size port W)
  have HM := Lib.hid (fun W hW => rmay29_any l ia ic base size port W (HA.out.below hW) (by rw [← HN.out]; exact hm) hb0)
  rw [← HN.out] at HM
  have HR := Lib.hid (read_any l ia ic base size port da len dc d w1 (HA.out.below B2.out) (by rw [← HN.out]; exact hm) hb0 hmay (HD.out.below B2.out) HDD.out (by rw [← HN.out]; exact hlen) hl hdc)
  have HR2 := Lib.hid (fun (W : World) (hW : Below w.heap.size w W) => rread29_any l ia ic base size port da len dc d W (HA.out.below hW) (by rw [← HN.out]; exact hm) hb0 hmay (HD.out.below hW) HDD.out (by rw [← HN.out]; exact hlen) hl hdc)
  rw [← HN.out] at HR HR2
  obtain ⟨hG, hsz, _, _, _, _⟩ := mayD_ok hmay
  have hG1 := hG.m16; have hG2 := hG.sm
  have hgm : (lgOf l base size port).m = l.length := by unfold lgOf LG.m; simp
  have hgs : (lgOf l base size port).size = size.toNat := rfl
  rw [hgm, ← HN.out] at hG1
  rw [hgs] at hG2
  have HBY := Lib.hid (fun W => rbytes_any ia m ic base size port W hG1 (by omega) (by omega))
  rw [hmay] at HM
  have hwd := word_lt d HDD.out 0
  have hko : kOf size.toNat d ≤ 1000 := Nat.le_trans (Nat.min_le_right _ _) hG2
  have HCH : Hid (∀ e W, RdR l m size.toNat d w1.heap.size e W → if chsOk m size.toNat d then ∃ a c, e = .returned (.tuple #[.slice a (kOf size.toNat d) c, .int .u32 (wordD d 0 : Int), .int .i64 0]) ∧ ChAt W a l (chs m size.toNat d) else e = .returned (.tuple #[.slice none 0 0, .int .u32 0, .int .i64 42])) := fun e W h => h
  have HCT : Hid (∀ e W, RdT l m size.toNat d e W → if chsOk m size.toNat d then ∃ a c, e = .returned (.tuple #[.slice a (kOf size.toNat d) c, .int .u32 (wordD d 0 : Int), .bool true]) ∧ ChAt W a l (chs m size.toNat d) else e = .returned (.tuple #[.slice none 0 0, .int .u32 0, .bool false])) := fun e W h => h
  have HLEN := Lib.hid (chs_len m size.toNat d)
  generalize bytesN m size = nb at *
  have t3 : decide (len < nb) = false := decide_eq_false (by omega)
  generalize wordD d 0 = cn at *
  obtain ⟨k0, hk0⟩ : ∃ k, k = kOf size.toNat d := ⟨_, rfl⟩
  rw [← hk0] at HCH HCT HLEN hko
  clear hmay hgm hgs hG hsz hk0
  go_wp2_with fail
  refine HR.out.mono ?_
  rintro e w2 ⟨hr, hb⟩
  have hr2 := HCH.out e w2 hr
  have K1 := Lib.hid (kept K1.out hb)
  try have H6 : Hid (ChAt w2 a6 l (chs m size.toNat d)) := SliceN.below H6.out hb
  have B2 : Hid (Below w.heap.size w w2) := B2.out.trans (hb.mono B2.out.size)
  clear hb
  clear q0 q1 q2 q3 lg HR t1 t2 hr
  have q0 : w2.cell? ⟨g, 0, none⟩ = some (.slice ia m ic) := cell_row (j := 0) K1.out rfl
  have q1 : w2.cell? ⟨g, 1, none⟩ = some (.int .u32 (base : Int)) := cell_row (j := 1) K1.out rfl
  have q2 : w2.cell? ⟨g, 2, none⟩ = some (.int .i64 size) := cell_row (j := 2) K1.out rfl
  have q3 : w2.cell? ⟨g, 3, none⟩ = some (.int .i64 port) := cell_row (j := 3) K1.out rfl
  have lg := heap_lt K1.out
  cases hok : chsOk m size.toNat d
  case false =>
    rw [hok, if_neg (by decide)] at hr2
    subst hr2
    rw [hok] at HCT
    -- the log is turned into the document's
    have HO := Lib.hid (HOT.out w2)
    go_wp2_with fail
    refine HO.out.mono ?_
    rintro e w4 ⟨rfl, hb⟩
    have K1 := Lib.hid (kept K1.out hb)
    try have H6 : Hid (ChAt w4 a6 l (chs m size.toNat d)) := SliceN.below H6.out hb
    have B2 : Hid (Below w.heap.size w w4) := B2.out.trans (hb.mono B2.out.size)
    clear hb
    clear HO q0 q1 q2 q3 lg
    go_wp2_with fail
    refine (HM.out _ B2.out).mono ?_
    rintro e w5 ⟨rfl, hb⟩
    have K1 := Lib.hid (kept K1.out hb)
    try have H6 : Hid (ChAt w5 a6 l (chs m size.toNat d)) := SliceN.below H6.out hb
    have B2 : Hid (Below w.heap.size w w5) := B2.out.trans (hb.mono B2.out.size)
    clear hb
    have q0 : w5.cell? ⟨g, 0, none⟩ = some (.slice ia m ic) := cell_row (j := 0) K1.out rfl
    have q1 : w5.cell? ⟨g, 1, none⟩ = some (.int .u32 (base : Int)) := cell_row (j := 1) K1.out rfl
    have q2 : w5.cell? ⟨g, 2, none⟩ = some (.int .i64 size) := cell_row (j := 2) K1.out rfl
    have q3 : w5.cell? ⟨g, 3, none⟩ = some (.int .i64 port) := cell_row (j := 3) K1.out rfl
    have lg := heap_lt K1.out
    -- the log is turned into the document's
    have HO := Lib.hid (HOT.out w5)
    go_wp2_with fail
    refine HO.out.mono ?_
    rintro e w4 ⟨rfl, hb⟩
    have K1 := Lib.hid (kept K1.out hb)
    try have H6 : Hid (ChAt w4 a6 l (chs m size.toNat d)) := SliceN.below H6.out hb
    have B2 : Hid (Below w.heap.size w w4) := B2.out.trans (hb.mono B2.out.size)
    clear hb
    clear HO q0 q1 q2 q3 lg
    go_wp2_with fail
    refine (HBY.out _).mono ?_
    rintro e w6 ⟨rfl, hb⟩
    have K1 := Lib.hid (kept K1.out hb)
    try have H6 : Hid (ChAt w6 a6 l (chs m size.toNat d)) := SliceN.below H6.out hb
    have B2 : Hid (Below w.heap.size w w6) := B2.out.trans (hb.mono B2.out.size)
    clear hb
    have q0 : w6.cell? ⟨g, 0, none⟩ = some (.slice ia m ic) := cell_row (j := 0) K1.out rfl
    have q1 : w6.cell? ⟨g, 1, none⟩ = some (.int .u32 (base : Int)) := cell_row (j := 1) K1.out rfl
    have q2 : w6.cell? ⟨g, 2, none⟩ = some (.int .i64 size) := cell_row (j := 2) K1.out rfl
    have q3 : w6.cell? ⟨g, 3, none⟩ = some (.int .i64 port) := cell_row (j := 3) K1.out rfl
    have lg := heap_lt K1.out
    -- the log is turned into the document's
    have HO := Lib.hid (HOT.out w6)
    go_wp2_with fail
    refine HO.out.mono ?_
    rintro e w4 ⟨rfl, hb⟩
    have K1 := Lib.hid (kept K1.out hb)
    try have H6 : Hid (ChAt w4 a6 l (chs m size.toNat d)) := SliceN.below H6.out hb
    have B2 : Hid (Below w.heap.size w w4) := B2.out.trans (hb.mono B2.out.size)
    clear hb
    clear HO q0 q1 q2 q3 lg
    go_wp2_with fail
    refine (HR2.out _ B2.out).mono ?_
    rintro e w7 ⟨hr, hb⟩
    have hr2 := HCT.out e w7 hr
    rw [if_neg (by decide)] at hr2
    subst hr2
    try have H6 : Hid (ChAt w7 a6 l (chs m size.toNat d)) := SliceN.below H6.out hb
    have B2 : Hid (Below w.heap.size w w7) := B2.out.trans (hb.mono B2.out.size)
    clear hb
    have HSM := Lib.hid (same29_any l [] none none 0 0 0 w7 rfl (.inl rfl) (.inl rfl) (by decide))
    clear hr HCH HCT HLEN K1 HM HOT HBY HR2
    go_wp2_with fail
    refine HSM.out.mono ?_
    rintro e w8 ⟨rfl, hb⟩
    try have H6 : Hid (ChAt w8 a6 l (chs m size.toNat d)) := SliceN.below H6.out hb
    have B2 : Hid (Below w.heap.size w w8) := B2.out.trans (hb.mono B2.out.size)
    clear hb
    clear HSM
    have HWK := Lib.hid (works29_any w8 (HL.out.below B2.out))
    go_wp2_with fail
    refine HWK.out.mono ?_
    rintro e w9 ⟨rfl, hb9⟩
    have B9 : Hid (Below w.heap.size w w9) := B2.out.trans (hb9.mono B2.out.size)
    clear HWK hb9
    go_wp2_with fail
    go_ret
    exact ⟨rfl, B9.out⟩
  rw [hok, if_pos rfl] at hr2
  obtain ⟨a6, c6, rfl, H6⟩ := hr2
  have H6 := Lib.hid H6
  rw [hok] at HCT
  -- the log is turned into the document's
  have HO := Lib.hid (HOT.out w2)
  go_wp2_with fail
  refine HO.out.mono ?_
  rintro e w4 ⟨rfl, hb⟩
  have K1 := Lib.hid (kept K1.out hb)
  try have H6 : Hid (ChAt w4 a6 l (chs m size.toNat d)) := SliceN.below H6.out hb
  have B2 : Hid (Below w.heap.size w w4) := B2.out.trans (hb.mono B2.out.size)
  clear hb
  clear HO q0 q1 q2 q3 lg
  go_wp2_with fail
  refine (HM.out _ B2.out).mono ?_
  rintro e w5 ⟨rfl, hb⟩
  have K1 := Lib.hid (kept K1.out hb)
  try have H6 : Hid (ChAt w5 a6 l (chs m size.toNat d)) := SliceN.below H6.out hb
  have B2 : Hid (Below w.heap.size w w5) := B2.out.trans (hb.mono B2.out.size)
  clear hb
  have q0 : w5.cell? ⟨g, 0, none⟩ = some (.slice ia m ic) := cell_row (j := 0) K1.out rfl
  have q1 : w5.cell? ⟨g, 1, none⟩ = some (.int .u32 (base : Int)) := cell_row (j := 1) K1.out rfl
  have q2 : w5.cell? ⟨g, 2, none⟩ = some (.int .i64 size) := cell_row (j := 2) K1.out rfl
  have q3 : w5.cell? ⟨g, 3, none⟩ = some (.int .i64 port) := cell_row (j := 3) K1.out rfl
  have lg := heap_lt K1.out
  -- the log is turned into the document's
  have HO := Lib.hid (HOT.out w5)
  go_wp2_with fail
  refine HO.out.mono ?_
  rintro e w4 ⟨rfl, hb⟩
  have K1 := Lib.hid (kept K1.out hb)
  try have H6 : Hid (ChAt w4 a6 l (chs m size.toNat d)) := SliceN.below H6.out hb
  have B2 : Hid (Below w.heap.size w w4) := B2.out.trans (hb.mono B2.out.size)
  clear hb
  clear HO q0 q1 q2 q3 lg
  go_wp2_with fail
  refine (HBY.out _).mono ?_
  rintro e w6 ⟨rfl, hb⟩
  have K1 := Lib.hid (kept K1.out hb)
  try have H6 : Hid (ChAt w6 a6 l (chs m size.toNat d)) := SliceN.below H6.out hb
  have B2 : Hid (Below w.heap.size w w6) := B2.out.trans (hb.mono B2.out.size)
  clear hb
  have q0 : w6.cell? ⟨g, 0, none⟩ = some (.slice ia m ic) := cell_row (j := 0) K1.out rfl
  have q1 : w6.cell? ⟨g, 1, none⟩ = some (.int .u32 (base : Int)) := cell_row (j := 1) K1.out rfl
  have q2 : w6.cell? ⟨g, 2, none⟩ = some (.int .i64 size) := cell_row (j := 2) K1.out rfl
  have q3 : w6.cell? ⟨g, 3, none⟩ = some (.int .i64 port) := cell_row (j := 3) K1.out rfl
  have lg := heap_lt K1.out
  -- the log is turned into the document's
  have HO := Lib.hid (HOT.out w6)
  go_wp2_with fail
  refine HO.out.mono ?_
  rintro e w4 ⟨rfl, hb⟩
  have K1 := Lib.hid (kept K1.out hb)
  try have H6 : Hid (ChAt w4 a6 l (chs m size.toNat d)) := SliceN.below H6.out hb
  have B2 : Hid (Below w.heap.size w w4) := B2.out.trans (hb.mono B2.out.size)
  clear hb
  clear HO q0 q1 q2 q3 lg
  go_wp2_with fail
  refine (HR2.out _ B2.out).mono ?_
  rintro e w7 ⟨hr, hb⟩
  have hr2 := HCT.out e w7 hr
  rw [if_pos trivial] at hr2
  obtain ⟨b7, d7, rfl, h7⟩ := hr2
  try have H6 : Hid (ChAt w7 a6 l (chs m size.toNat d)) := SliceN.below H6.out hb
  have B2 : Hid (Below w.heap.size w w7) := B2.out.trans (hb.mono B2.out.size)
  clear hb
  have HSM := Lib.hid (same29_any l (chs m size.toNat d) a6 b7 c6 d7 k0 w7 HLEN.out.symm H6.out h7 (by omega))
  clear hr HCH HCT HLEN K1 HM HOT HBY HR2
  go_wp2_with fail
  refine HSM.out.mono ?_
  rintro e w8 ⟨rfl, hb⟩
  try have H6 : Hid (ChAt w8 a6 l (chs m size.toNat d)) := SliceN.below H6.out hb
  have B2 : Hid (Below w.heap.size w w8) := B2.out.trans (hb.mono B2.out.size)
  clear hb
  clear HSM
  have HWK := Lib.hid (works29_any w8 (HL.out.below B2.out))
  go_wp2_with fail
  refine HWK.out.mono ?_
  rintro e w9 ⟨rfl, hb9⟩
  have B9 : Hid (Below w.heap.size w w9) := B2.out.trans (hb9.mono B2.out.size)
  clear HWK hb9
  go_wp2_with fail
  go_ret
  exact ⟨rfl, B9.out⟩
theorem dreads_walk (v0 : Value) (a1 : Option Addr) (len1 cap1 : Nat) (w : World) (h0 : ReadsC w 44 v0.cells.toList ∧ Value.okWide Tryz.prog w .any 0 44 v0) (h1 : ReadsC w 39 [.slice a1 len1 cap1]) (hL : LibW w) :
    Calls Tryz.prog 7 #[v0, .slice a1 len1 cap1] w fun e w' => e = .returned (.bool true) ∧ Below w.heap.size w w' := by
  obtain ⟨ia, ic, l, base, size, port, rfl, hb, _, _, hc, hcm, hA⟩ := rd_log h0
  obtain ⟨d, hd, k0, k1, hD⟩ := rd_bytes h1
  unfold maxLen at hcm k1
  by_cases hout : l.length ≤ 1000 ∧ len1 ≤ 20000
  · by_cases hno : mayD l base size port = true → len1 < bytesN l.length size
    · exact dreads_no l ia ic base size port a1 len1 cap1 d w hA (by omega) hb hD hd k0 (by omega) hL hout.1 hout.2 hno
    · have hmay : mayD l base size port = true := by
        cases h : mayD l base size port
        · exact absurd (fun h2 => absurd h2 (by rw [h]; decide)) hno
        · rfl
      have hlen : bytesN l.length size ≤ len1 := by
        rcases Nat.lt_or_ge len1 (bytesN l.length size) with h | h
        · exact absurd (fun _ => h) hno
        · exact h
      exact dreads_yes l ia ic base size port a1 len1 cap1 d w hA (by omega) hb hD hd k0 (by omega) hL hout.1 hout.2 hmay hlen
  · exact dreads_out l ia ic base size port a1 len1 cap1 d w hA (by omega) hb hD hd k0 (by omega) hL hout
end Go.Proofs.YtdlpgoackmgdkaaGreatDoor
