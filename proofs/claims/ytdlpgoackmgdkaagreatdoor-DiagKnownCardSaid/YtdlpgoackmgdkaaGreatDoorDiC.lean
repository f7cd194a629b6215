/- Build: a log's program, walked. -/
import Derived.Test.YtdlpgoackmgdkaaGreatDoorDiB
import Derived.Test.YtdlpgoackmgdkaaGreatDoorArRp
namespace Go.Proofs.YtdlpgoackmgdkaaGreatDoor
open Go.RowKit Go.Shelf
set_option linter.unusedVariables false
set_option linter.unusedSimpArgs false
theorem itoaN (n : Nat) (hn : n ≤ 1000000) (w : World) (hT : TabW w) : Calls Tryz.prog 58 #[.int .i64 (n : Int)] w fun e w' => e = .returned (.string (decS n)) ∧ Below w.heap.size w w' := by
  have := itoa_any (n : Int) (by omega) (by omega) w hT
  rw [itoaB_nat] at this; exact this
theorem decS_s (n : Nat) (h : n < 18446744073709551616) : (decS n).size ≤ 20 := decS_size n h
/-- What lies at each step. -/
structure BS (G : LG) (B kc kp : Nat) (T : List UInt8) (w2 W : World) : Prop where
  wr : WrAt B B T W
  kcS : StrsAt W kc (countSS G)
  kpS : StrsAt W kp (placeSS G)
  ne : kc ≠ B ∧ kp ≠ B
  bb : Below B w2 W
  sz : B + 1 ≤ W.heap.size
theorem BS.below {G : LG} {B kc kp : Nat} {T : List UInt8} {w2 W W' : World} (h : BS G B kc kp T w2 W) (hb : Below W.heap.size W W') : BS G B kc kp T w2 W' :=
  ⟨h.wr.below hb, h.kcS.same (hb.block _ h.kcS.lt), h.kpS.same (hb.block _ h.kpS.lt), h.ne, h.bb.trans (hb.mono (by have := h.sz; omega)), Nat.le_trans h.sz hb.size⟩
theorem BS.put {G : LG} {B kc kp : Nat} {T T' : List UInt8} {w2 W W' : World} (h : BS G B kc kp T w2 W) (h1 : WrAt B B T' W') (hb : Below B W W') (ho : Lib.OthersKept 5 (some B) W W') : BS G B kc kp T' w2 W' :=
  ⟨h1, h.kcS.others ho h.ne.1, h.kpS.others ho h.ne.2, h.ne, h.bb.trans hb, Nat.le_trans h.sz hb.size⟩
theorem BS.put_new {G : LG} {B kc kp : Nat} {T : List UInt8} {w2 W : World} (h : BS G B kc kp T w2 W) (ss : List ByteArray) (L : List UInt8) (n : Nat) (hn0 : n = ss.length) (hL : linesT ss = L) (hm : T.length + L.length ≤ 1000000) (hn : ss.length ≤ 1000) :
    Calls Tryz.prog 59 #[.pointer (some ⟨B, 0, none⟩), .slice (some ⟨W.heap.size, 0, none⟩) n n] (W.alloc (.cells (strRow ss) 9)) fun e w' => e = .returned (.tuple #[]) ∧ BS G B kc kp (T ++ L) w2 w' := by
  subst hL
  refine (Go.Proofs.YtdlpgoackmgdkaaGreatDoor.put_new B B T ss n hn0 W h.wr (by have := h.sz; omega) hm hn).mono ?_
  rintro e w' ⟨rfl, h1, h2, h3⟩
  exact ⟨rfl, h.put h1 h2 h3⟩
theorem BS.put_c {G : LG} {B kc kp : Nat} {T : List UInt8} {w2 W : World} (h : BS G B kc kp T w2 W) (c : Nat) (hm : T.length ≤ 900000) (hl : (linesT (countSS G)).length ≤ 1000) :
    Calls Tryz.prog 59 #[.pointer (some ⟨B, 0, none⟩), .slice (some ⟨kc, 0, none⟩) 2 c] W fun e w' => e = .returned (.tuple #[]) ∧ BS G B kc kp (T ++ (pushT G.base ++ [108, 111, 97, 100, 52, 32, 48, 10])) w2 w' := by
  refine (put_any B B T kc c (countSS G) W h.wr h.kcS h.ne.1 (by have := h.sz; omega) (by omega) (by show _ ≤ 1000; simp [countSS, placeSS])).mono ?_
  rintro e w' ⟨rfl, h1, h2, h3⟩
  rw [count_lines] at h1
  exact ⟨rfl, h.put h1 h2 h3⟩
theorem BS.put_p {G : LG} {B kc kp : Nat} {T : List UInt8} {w2 W : World} (h : BS G B kc kp T w2 W) (c : Nat) (hm : T.length ≤ 900000) (hl : (linesT (placeSS G)).length ≤ 1000) :
    Calls Tryz.prog 59 #[.pointer (some ⟨B, 0, none⟩), .slice (some ⟨kp, 0, none⟩) 6 c] W fun e w' => e = .returned (.tuple #[]) ∧ BS G B kc kp (T ++ placeT G) w2 w' := by
  refine (put_any B B T kp c (placeSS G) W h.wr h.kpS h.ne.2 (by have := h.sz; omega) (by omega) (by show _ ≤ 1000; simp [countSS, placeSS])).mono ?_
  rintro e w' ⟨rfl, h1, h2, h3⟩
  rw [place_lines] at h1
  exact ⟨rfl, h.put h1 h2 h3⟩
theorem BS.ws {G : LG} {B kc kp : Nat} {T : List UInt8} {w2 W : World} (h : BS G B kc kp T w2 W) (s : ByteArray) (hm : T.length + s.size ≤ 1000000) :
    Calls Tryz.prog 60 #[.pointer (some ⟨B, 0, none⟩), .string s] W fun e w' => e = .returned (.tuple #[.int .i64 s.size, .nilIface]) ∧ BS G B kc kp (T ++ s.data.toList) w2 w' := by
  refine (ws_any B B T s W h.wr (by omega) (by have := h.sz; omega)).mono ?_
  rintro e w' ⟨rfl, h1, h2, h3⟩
  exact ⟨rfl, h.put h1.wr h2 h3⟩
theorem strB_of_own {w : World} {B : Nat} {v : Value} {ss : List ByteArray} (h : w.ownsRow B 9 1 v ss.length (ss.map Value.string)) (h0 : 0 < ss.length) : ∃ g c, v = .slice (some ⟨g, 0, none⟩) ss.length c ∧ B ≤ g ∧ StrsAt w g ss := by
  rcases h.2 with ⟨_, h1⟩ | ⟨g, cap, cur, hv, h1, h2, h3, h4, h5, h6⟩
  · omega
  · refine ⟨g, cap, hv, h1, cur, h2, by omega, fun i hi => ?_⟩
    rw [Nat.mul_one] at h6
    have := congrArg (fun t => t[i]?) h6
    simp only [List.getElem?_take, List.getElem?_map] at this
    rw [if_pos hi, List.getElem?_eq_getElem hi] at this
    show cur[i]? = some (Value.string (ss.getD i s0))
    rw [List.getD_eq_getElem?_getD, List.getElem?_eq_getElem hi]
    simpa using this
set_option maxRecDepth 100000 in
set_option maxHeartbeats 16000000 in
theorem dbuild_ok (l : List Int) (ia : Option Addr) (ic base : Nat) (size port : Int) (w : World) (hA : IlAt w ia l) (hm : l.length ≤ 9223372036854775807) (hb0 : base < 4294967296) (hmay : mayD l base size port = true) (hL : LibW w) :
    Calls Tryz.prog 24 #[.agg #[.slice ia l.length ic, .int .u32 (base : Int), .int .i64 size, .int .i64 port]] w fun e w' =>
      (∃ v, e = .returned (.tuple #[v, .int .i64 0]) ∧ w'.ownsRow w.heap.size 145 4 v (logC (lgOf l base size port)).length (insVs (logC (lgOf l base size port)))) ∧ Below w.heap.size w w' := by
  obtain ⟨hG, hsz, hins, hp1, hp2, hbn⟩ := mayD_ok hmay
  obtain ⟨s, hs⟩ : ∃ s, s = size.toNat := ⟨_, rfl⟩
  rw [← hs] at hsz
  subst hsz
  obtain ⟨G, hGe⟩ : ∃ G, G = lgOf l base (s : Int) port := ⟨_, rfl⟩
  have hgm : G.m = l.length := by rw [hGe]; unfold lgOf LG.m; simp
  have hgb : G.base = base := by rw [hGe]; rfl
  have hgs : G.size = s := by rw [hGe]; rfl
  have hgi : ∀ i, i < l.length → G.ins[i]? = some (l.getD i 0).toNat := fun i hi => by rw [hGe]; show (l.map Int.toNat)[i]? = _; rw [List.getElem?_map, List.getElem?_eq_getElem hi, List.getD_eq_getElem?_getD, List.getElem?_eq_getElem hi]; rfl
  have hgp : G.port = if port < 0 then none else some port.toNat := by rw [hGe]; rfl
  rw [← hGe] at hG hbn ⊢
  clear hGe
  have HG := Lib.hid hG; have HINS := Lib.hid hins; have HA := Lib.hid hA; have HLW := Lib.hid hL
  have HGI := Lib.hid hgi; have HGP := Lib.hid hgp; have HGM := Lib.hid hgm; have HGBa := Lib.hid hgb; have HGS := Lib.hid hgs
  have hm16 : l.length ≤ 16 := by have := hG.m16; omega
  have hm1 : 1 ≤ l.length := by have := hG.m1; omega
  have hs1 : 1 ≤ s := by have := hG.s1; omega
  have hs2 : s ≤ 1000 := by have := hG.sm; omega
  have HBY := Lib.hid (fun W (h : IlAt W ia l) => by have := dbytes_any l ia ic base (s : Int) port W h hm hb0; rw [hmay] at this; exact this)
  have hbr : bytesR true l.length (s : Int) = ((4 * (1 + l.length + 2 * s) : Nat) : Int) := rfl
  rw [hbr] at HBY
  obtain ⟨nb, hnb⟩ : ∃ nb, nb = 4 * (1 + l.length + 2 * s) := ⟨_, rfl⟩
  rw [← hnb] at HBY
  have hnb1 : 1 ≤ nb := by omega
  have t0 : ((nb : Int) == 0) = false := beq_eq_false_iff_ne.2 (by omega)
  obtain ⟨m, hmm⟩ : ∃ m, m = l.length := ⟨_, rfl⟩
  rw [← hmm] at hm16 hm1 HBY ⊢
  have HM := Lib.hid hmm
  clear hbr hnb hgm hgb hgs hgi hgp hG hins hbn hA hL hmay hs hm
  obtain ⟨w1, hw1⟩ : ∃ x, x = w.alloc (.cells #[.slice ia m ic, .int .u32 (base : Int), .int .i64 (s : Int), .int .i64 port] 44) := ⟨_, rfl⟩
  have B1 : Hid (Below w.heap.size w w1) := by rw [hw1]; exact alloc_below _ _
  have K1 : Hid (w1.heap[w.heap.size]? = some (.cells #[.slice ia m ic, .int .u32 (base : Int), .int .i64 (s : Int), .int .i64 port] 44 (0, 0))) := by rw [hw1]; exact heap_alloc_new _ _
  have HW1 := Lib.hid hw1
  obtain ⟨g, hg⟩ : ∃ g, g = w.heap.size := ⟨_, rfl⟩
  rw [← hg] at K1
  have HGx := Lib.hid hg
  have mf : ∀ w', (Instr.makeFunc (.func 56) #[] #[.pointer (some ⟨g, 0, none⟩)]).run Tryz.prog w' = .ok (.func (.func 56) #[] #[.pointer (some ⟨g, 0, none⟩)]) w' := fun _ => rfl
  clear hmm hw1 hg
  have q0 := cell_row (j := 0) K1.out rfl
  have q1 := cell_row (j := 1) K1.out rfl
  have q2 := cell_row (j := 2) K1.out rfl
  have q3 := cell_row (j := 3) K1.out rfl
  go_enter Tryz.func24, Tryz.ntmps24
  go_upto_region 1 with fail
  rw [← HW1.out, ← HGx.out]
  clear HW1
  go_wp2_with fail
  refine (HBY.out w1 (HA.out.below B1.out)).mono ?_
  rintro e w2 ⟨rfl, hb2⟩
  have HP0 : Hid (w2.cell? ⟨g, 0, none⟩ = some (.slice ia m ic)) := (hb2.cell (heap_lt K1.out)).trans q0
  have HP1 : Hid (w2.cell? ⟨g, 1, none⟩ = some (.int .u32 (base : Int))) := (hb2.cell (heap_lt K1.out)).trans q1
  have HP2 : Hid (w2.cell? ⟨g, 2, none⟩ = some (.int .i64 (s : Int))) := (hb2.cell (heap_lt K1.out)).trans q2
  have HP3 : Hid (w2.cell? ⟨g, 3, none⟩ = some (.int .i64 port)) := (hb2.cell (heap_lt K1.out)).trans q3
  have HGB : Hid (g < w2.heap.size) := Nat.lt_of_lt_of_le (heap_lt K1.out) hb2.size
  have B2 : Hid (Below w.heap.size w w2) := B1.out.trans (hb2.mono B1.out.size)
  clear hb2 q0 q1 q2 q3 K1 B1 HBY
  obtain ⟨B, hB⟩ : ∃ B, B = w2.heap.size := ⟨_, rfl⟩
  obtain ⟨w3, hw3⟩ : ∃ x, x = w2.alloc (.cells #[.pointer none, .slice none 0 0] 111) := ⟨_, rfl⟩
  have H3 : Hid (WrAt B B [] w3) := by rw [hB, hw3]; exact WrAt.fresh w2
  have B3 : Hid (Below B w2 w3) := by rw [hB, hw3]; exact alloc_below _ _
  have HS3 : Hid (B + 1 ≤ w3.heap.size) := by rw [hB, hw3]; show _ ≤ _; simp
  rw [← hB] at HGB
  have HLX : Hid (∀ W, Below B w2 W → LibW W) := fun W hW => HLW.out.below (B2.out.trans (hW.mono (by rw [hB]; exact B2.out.size)))
  have HBW : Hid (w.heap.size ≤ B) := by rw [hB]; exact B2.out.size
  have HP1X : Hid (∀ W, Below B w2 W → W.cell? ⟨g, 1, none⟩ = some (.int .u32 (base : Int))) := fun W hW => (hW.cell (p := ⟨g, 1, none⟩) HGB.out).trans HP1.out
  have HWD : Hid (∀ (W : World) (j : Nat), Below B w2 W → j ≤ 10000 → Calls Tryz.prog 56 #[.int .i64 (j : Int), .pointer (some ⟨g, 0, none⟩)] W fun e w' => e = .returned (.string (decS (G.wd j))) ∧ Below W.heap.size W w') := fun W j hW hj => by
    have := word_any g base j W (HP1X.out W hW) hb0 hj (HLX.out W hW).tab
    unfold LG.wd; rw [HGBa.out]; exact this
  have HBB := Lib.hid hB; have HW3 := Lib.hid hw3
  clear hB hw3
  go_upto_region 4 with fail
  rw [← HW3.out, ← HBB.out]
  clear HW3
  have p0 : w3.cell? ⟨g, 0, none⟩ = some (.slice ia m ic) := (B3.out.cell (p := ⟨g, 0, none⟩) HGB.out).trans HP0.out
  have HC1 := Lib.hid (HWD.out w3 (1 + m) B3.out (by omega))
  rw [show ((1 + m : Nat) : Int) = 1 + (m : Int) by omega] at HC1
  go_wp2_with fail
  refine HC1.out.mono ?_
  rintro e w4 ⟨rfl, hb⟩
  have B4 : Hid (Below B w2 w4) := B3.out.trans (hb.mono (by have := HS3.out; omega))
  have H4 : Hid (WrAt B B [] w4) := H3.out.below hb
  have HS4 : Hid (B + 1 ≤ w4.heap.size) := Nat.le_trans HS3.out hb.size
  clear hb B3 H3 HS3 p0 HC1
  have HC0 := Lib.hid (HWD.out w4 0 B4.out (by omega))
  rw [show ((0 : Nat) : Int) = 0 from rfl, show G.wd 0 = G.base from rfl] at HC0
  obtain ⟨PL, hPL⟩ : ∃ x, x = decS (G.wd (1 + m)) := ⟨_, rfl⟩
  rw [← hPL]
  have hPLs : PL.size ≤ 20 := by rw [hPL]; exact decS_s _ (by have := HG.out.wd (j := 1 + m) (by rw [HGM.out, HM.out]; omega); omega)
  have HMG : Hid (m = G.m) := by show _ = _; rw [HM.out, HGM.out]
  have HPL : Hid (PL = decS (G.wd (1 + G.m))) := by show _ = _; rw [hPL, HMG.out]
  clear hPL
  go_wp2_with fail
  refine HC0.out.mono ?_
  rintro e w5 ⟨rfl, hb⟩
  have B5 : Hid (Below B w2 w5) := B4.out.trans (hb.mono (by have := HS4.out; omega))
  have H5 : Hid (WrAt B B [] w5) := H4.out.below hb
  have HS5 : Hid (B + 1 ≤ w5.heap.size) := Nat.le_trans HS4.out hb.size
  clear hb B4 H4 HS4 HC0
  obtain ⟨BA, hBA⟩ : ∃ x, x = decS G.base := ⟨_, rfl⟩
  rw [← hBA]
  have hBAs : BA.size ≤ 20 := by rw [hBA]; exact decS_s _ (by rw [HGBa.out]; omega)
  have HBA := Lib.hid hBA
  clear hBA
  obtain ⟨w6, hw6⟩ : ∃ x, x = w5.alloc (.cells #[.string ((⟨#[112, 117, 115, 104, 32]⟩ : ByteArray) ++ BA), .string ⟨#[108, 111, 97, 100, 52, 32, 48]⟩] 9) := ⟨_, rfl⟩
  obtain ⟨kc, hkc⟩ : ∃ x, x = w5.heap.size := ⟨_, rfl⟩
  have KC6 : Hid (StrsAt w6 kc (countSS G)) := by
    have := strRow_new w5 (countSS G)
    show StrsAt _ _ _
    rw [hw6, hkc]
    unfold countSS puS ld0 at this ⊢
    rw [HBA.out]; exact this
  have b6 : Below w5.heap.size w5 w6 := by rw [hw6]; exact alloc_below _ _
  have B6 : Hid (Below B w2 w6) := B5.out.trans (b6.mono (by have := HS5.out; omega))
  have H6 : Hid (WrAt B B [] w6) := H5.out.below b6
  have HS6 : Hid (B + 1 ≤ w6.heap.size) := Nat.le_trans HS5.out b6.size
  have hkB : kc ≠ B := by have := HS5.out; omega
  have HKB := Lib.hid hkB
  have HW6 := Lib.hid hw6; have HKC := Lib.hid hkc
  clear b6 B5 H5 HS5 hw6 hkB hkc
  go_upto_region 8 with fail
  rw [← HW6.out, ← HKC.out]
  clear HW6
  have p2 : w6.cell? ⟨g, 2, none⟩ = some (.int .i64 (s : Int)) := (B6.out.cell (p := ⟨g, 2, none⟩) HGB.out).trans HP2.out
  have HIS := Lib.hid (itoaN s (by omega) w6 (HLX.out _ B6.out).tab)
  go_wp2_with fail
  refine HIS.out.mono ?_
  rintro e w7 ⟨rfl, hb⟩
  have B7 : Hid (Below B w2 w7) := B6.out.trans (hb.mono (by have := HS6.out; omega))
  have H7 : Hid (WrAt B B [] w7) := H6.out.below hb
  have HS7 : Hid (B + 1 ≤ w7.heap.size) := Nat.le_trans HS6.out hb.size
  have KC7 : Hid (StrsAt w7 kc (countSS G)) := KC6.out.same (hb.block _ KC6.out.lt)
  clear hb B6 H6 HS6 KC6 HIS p2
  obtain ⟨SZ, hSZ⟩ : ∃ x, x = decS s := ⟨_, rfl⟩
  rw [← hSZ]
  have hSZs : SZ.size ≤ 20 := by rw [hSZ]; exact decS_s _ (by omega)
  have HSZ := Lib.hid hSZ
  clear hSZ
  obtain ⟨w8, hw8⟩ : ∃ x, x = w7.alloc (.cells #[.string ((⟨#[112, 117, 115, 104, 32]⟩ : ByteArray) ++ SZ), .string ⟨#[109, 111, 100]⟩, .string ⟨#[112, 117, 115, 104, 32, 56]⟩, .string ⟨#[109, 117, 108]⟩] 9) := ⟨_, rfl⟩
  have b8 : Below w7.heap.size w7 w8 := by rw [hw8]; exact alloc_below _ _
  have N8 : Hid (w8.heap[w7.heap.size]? = some (.cells #[.string ((⟨#[112, 117, 115, 104, 32]⟩ : ByteArray) ++ SZ), .string ⟨#[109, 111, 100]⟩, .string ⟨#[112, 117, 115, 104, 32, 56]⟩, .string ⟨#[109, 117, 108]⟩] 9 (0, 0))) := by rw [hw8]; exact heap_alloc_new _ _
  have B8 : Hid (Below B w2 w8) := B7.out.trans (b8.mono (by have := HS7.out; omega))
  have H8 : Hid (WrAt B B [] w8) := H7.out.below b8
  have HS8 : Hid (B + 1 ≤ w8.heap.size) := Nat.le_trans HS7.out b8.size
  have KC8 : Hid (StrsAt w8 kc (countSS G)) := KC7.out.same (b8.block _ KC7.out.lt)
  have HW8 := Lib.hid hw8
  clear b8 B7 H7 HS7 KC7 hw8
  obtain ⟨i0, hi, hz0, hz1, hz2⟩ := info_parts (show (Tryz.prog.info? 9).map (fun i => (i.zero, i.size, i.bytes)) = some (some (.string ⟨#[]⟩), 1, 16) by kernel_rfl)
  have HIn := Lib.hid hi; have HZ0 := Lib.hid hz0; have HZ1 := Lib.hid hz1; have HZ2 := Lib.hid hz2
  have HOLD : Hid (∀ b, some (⟨kc, 0, none⟩ : Addr) = some b → ∀ j u, [Value.string ((⟨#[112, 117, 115, 104, 32]⟩ : ByteArray) ++ BA), .string ⟨#[108, 111, 97, 100, 52, 32, 48]⟩][j]? = some u → w8.cell? (b.add j) = some u) := fun b e j u hj => by
    cases e
    rw [Go.WideShapes.add_plain, Nat.zero_add]
    match j, hj with
    | 0, hj => cases hj; have := KC8.out.cell (i := 0) (by show 0 < 2; decide); rw [HBA.out]; exact this
    | 1, hj => cases hj; exact KC8.out.cell (i := 1) (by show 1 < 2; decide)
    | n + 2, hj => simp at hj
  have HNEW : Hid (∀ j u, [Value.string ((⟨#[112, 117, 115, 104, 32]⟩ : ByteArray) ++ SZ), .string ⟨#[109, 111, 100]⟩, .string ⟨#[112, 117, 115, 104, 32, 56]⟩, .string ⟨#[109, 117, 108]⟩][j]? = some u → w8.cell? ((⟨w7.heap.size, 0, none⟩ : Addr).add j) = some u) := fun j u hj => by
    rw [Go.WideShapes.add_plain, Nat.zero_add]
    match j, hj with
    | 0, hj => exact cell_row N8.out hj
    | 1, hj => exact cell_row N8.out hj
    | 2, hj => exact cell_row N8.out hj
    | 3, hj => exact cell_row N8.out hj
    | n + 4, hj => simp at hj
  clear hi hz0 hz1 hz2
  go_wp2_with (at_builtin; rw [← HW8.out]; refine wpList_append_grows w8 rfl _ _ 115 rfl 9 i0 (.string ⟨#[]⟩) 1 16 Tryz.underlying115 HIn.out HZ0.out HZ1.out HZ2.out rfl (by decide) (some ⟨kc, 0, none⟩) 2 2 [Value.string ((⟨#[112, 117, 115, 104, 32]⟩ : ByteArray) ++ BA), .string ⟨#[108, 111, 97, 100, 52, 32, 48]⟩] rfl (fun h => by cases h) rfl HOLD.out ⟨w7.heap.size, 0, none⟩ 4 4 [Value.string ((⟨#[112, 117, 115, 104, 32]⟩ : ByteArray) ++ SZ), .string ⟨#[109, 111, 100]⟩, .string ⟨#[112, 117, 115, 104, 32, 56]⟩, .string ⟨#[109, 117, 108]⟩] rfl rfl HNEW.out (fun u hu => by simp at hu; rcases hu with rfl | rfl | rfl | rfl <;> rfl) (by omega) (by unfold maxLen; omega) (by omega) ?_)
  intro v9 w9 ho9 hg9
  obtain ⟨kp, pc, hv9x, hkp, hP9⟩ := strB_of_own (w := w9) (B := w8.heap.size) (v := v9) (ss := placeSS G) (by
    show w9.ownsRow _ _ _ _ 6 _
    unfold placeSS puS ld0
    rw [HGS.out, ← HBA.out, ← HSZ.out]
    exact ho9) (by show 0 < 6; decide)
  have hv9 : v9 = .slice (some ⟨kp, 0, none⟩) 6 pc := hv9x
  clear hv9x
  subst hv9
  have b9 : Below w8.heap.size w8 w9 := ⟨hg9.os, hg9.tape, hg9.output, hg9.size, fun i hi => hg9.block i hi (by simp)⟩
  have HB : Hid (BS G B kc kp (lgT G 0 (G.ins.take 0)) w2 w9) := ⟨H8.out.below b9, KC8.out.same (b9.block _ KC8.out.lt), hP9, ⟨HKB.out, Nat.ne_of_gt (Nat.lt_of_lt_of_le HS8.out hkp)⟩, B8.out.trans (b9.mono (by have := HS8.out; omega)), Nat.le_trans HS8.out b9.size⟩
  clear ho9 hg9 b9 hP9 hkp HOLD HNEW H8 B8 HS8 KC8 N8 HW8 HIn HZ0 HZ1 HZ2 HKB HKC
  have p0 : w9.cell? ⟨g, 0, none⟩ = some (.slice ia m ic) := (HB.out.bb.cell (p := ⟨g, 0, none⟩) HGB.out).trans HP0.out
  go_wp2_with fail
  clear p0
  have HCL : Hid ((linesT (countSS G)).length ≤ 1000) := by
    show _ ≤ _
    rw [count_lines]
    have := pushT_l (n := G.base) (by rw [HGBa.out]; omega)
    simp; omega
  have HPL2 : Hid ((linesT (placeSS G)).length ≤ 1000) := by
    show _ ≤ _
    rw [place_lines]
    have := placeT_l HG.out
    omega
  go_loopw [47] (fun i wr => ∃ k : Nat, k ≤ m ∧ i = .int .i64 (k : Int) ∧ Hid (BS G B kc kp (lgT G 0 (G.ins.take k)) w2 wr)) (fun i _ => m - (intOf i).toNat)
  case atStart => exact ⟨0, Nat.zero_le _, rfl, HB⟩
  case round =>
    clear HB
    obtain ⟨k, hk, rfl, HB⟩ := hrel
    have hil : G.ins.length = m := by have := HGM.out; unfold LG.m at this; rw [this, HM.out]
    have htl : (lgT G 0 (G.ins.take k)).length ≤ 20000 := by
      have h1 := lgT_l HG.out (G.ins.take k) 0 (by rw [List.length_take]; unfold LG.m; omega) (fun x hx => HG.out.ins x (List.mem_of_mem_take hx))
      rw [List.length_take] at h1
      have : min k G.ins.length ≤ 16 := by omega
      omega
    rcases Nat.lt_or_ge k m with hk2 | hk2
    case inr =>
      obtain rfl : k = m := by omega
      have t2 : decide ((k : Int) < (k : Int)) = false := by simp
      have HTE : Hid (G.ins.take k = G.ins) := by show _ = _; rw [← hil, List.take_length]
      rw [HTE.out] at HB htl
      clear HTE hil
      obtain ⟨T, hT⟩ : ∃ T, T = lgT G 0 G.ins := ⟨_, rfl⟩
      rw [← hT] at HB htl
      have HT := Lib.hid hT
      clear hT
      have HC := Lib.hid (HB.out.put_new [⟨#[112, 117, 115, 104, 32, 48]⟩, ⟨#[100, 114, 111, 112]⟩] _ 2 rfl drop_lines (by simp only [List.length_append, List.length_cons, List.length_nil]; omega) (by simp))
      go_wp2_with fail
      refine (HC.out).mono ?_
      rintro e wa ⟨rfl, hb⟩
      clear HB
      have HB := Lib.hid hb
      clear hb
      clear HC
      have p3 : wa.cell? ⟨g, 3, none⟩ = some (.int .i64 port) := (HB.out.bb.cell (p := ⟨g, 3, none⟩) HGB.out).trans HP3.out
      by_cases hp0 : port < 0
      case pos =>
        have t3 : decide (0 ≤ port) = false := decide_eq_false (by omega)
        have HGP2 : Hid (G.port = none) := by show _ = _; rw [HGP.out, if_pos hp0]
        have HC := Lib.hid (HB.out.put_new [⟨#[121, 105, 101, 108, 100]⟩] _ 1 rfl yield_lines (by simp only [List.length_append, List.length_cons, List.length_nil]; omega) (by simp))
        go_wp2_with fail
        refine (HC.out).mono ?_
        rintro e wb ⟨rfl, hb⟩
        clear HB
        have HB := Lib.hid hb
        clear hb
        clear HC p3
        have HBF : Hid (BS G B kc kp (lgT G 0 G.ins ++ dtailT G) w2 wb) := by
          have h := HB.out
          show BS _ _ _ _ _ _ _
          rw [← HT.out]
          unfold dtailT
          rw [HGP2.out]
          simpa only [List.append_assoc, List.nil_append] using h
        clear HB
        have HB := HBF
        clear HBF
        -- parsed and assembled
        have HPA := Lib.hid (log_parse HG.out)
        have hok := log_ok HG.out
        have hln := log_len HG.out
        have HTL : Hid (((logA G).flatMap linL).length ≤ 524288) := by
          have h1 := flatM_len (f := linL) (m := 99) (logA G) (fun x hx => (lin_len (hok x hx).1 (hok x hx).2).2.2)
          show _ ≤ _; omega
        have HAOK : Hid (∀ i, i < (logA G).length → ((logA G).getD i al0).ok) := fun i hi => (hok _ (by rw [List.getD_eq_getElem?_getD, List.getElem?_eq_getElem hi]; exact List.getElem_mem hi)).2
        have HALN : Hid ((logA G).length ≤ 16384) := by show _ ≤ _; omega
        have HASM := Lib.hid (log_asm HG.out)
        have HFT := Lib.hid (log_text HG.out)
        have HNE : Hid ((logA G).flatMap linL ≠ []) := by
          show _ ≠ _
          rw [HFT.out]
          unfold dtailT
          intro h
          have := congrArg List.length h
          simp at this
        rw [← HFT.out] at HB
        obtain ⟨tx, htx⟩ : ∃ tx, tx = (logA G).flatMap linL := ⟨_, rfl⟩
        rw [← htx] at HPA HTL HNE HB
        obtain ⟨als, hals⟩ : ∃ als, als = logA G := ⟨_, rfl⟩
        rw [← hals] at HPA HAOK HALN HASM
        clear htx hok hln hals HFT
        go_wp2_with fail
        refine (wstr_any B B tx _ HB.out.wr HNE.out (by have := HTL.out; omega)).mono ?_
        rintro e w12 ⟨rfl, _, hb12, _⟩
        have B12 : Hid (Below B w2 w12) := HB.out.bb.trans hb12
        clear hb12 HB
        have HPR := Lib.hid (parse_any (⟨tx.toArray⟩ : ByteArray) w12 (by rw [← size_list]; have := HTL.out; simp; omega) (HLX.out _ B12.out))
        rw [show (⟨tx.toArray⟩ : ByteArray).data.toList = tx by simp, HPA.out] at HPR
        generalize (⟨tx.toArray⟩ : ByteArray) = TXB at *
        go_wp2_with fail
        refine HPR.out.mono ?_
        rintro e w13 ⟨⟨v13, rfl, ho13⟩, hb13⟩
        obtain ⟨aa, ac, rfl, hac1, hac2, hAL⟩ := als_of_own ho13
        have HAL := Lib.hid hAL
        have B13 : Hid (Below w.heap.size w w13) := B2.out.trans ((B12.out.mono HBW.out).trans (hb13.mono (Nat.le_trans B2.out.size B12.out.size)))
        have HASS := Lib.hid (asm_any als aa ac w13 HAL.out HAOK.out (by have := HALN.out; omega))
        rw [HASM.out] at HASS
        unfold maxLen at hac2
        clear ho13 hb13 hAL HPR B12
        go_wp2_with fail
        refine HASS.out.mono ?_
        rintro e w14 ⟨⟨v14, rfl, ho14⟩, hb14⟩
        have B14 : Hid (Below w.heap.size w w14) := B13.out.trans (hb14.mono B13.out.size)
        have HO14 := Lib.hid (own_low ho14 B13.out.size)
        clear ho14 hb14 HASS
        go_wp2_with fail
        go_ret2
        exact ⟨⟨_, rfl, HO14.out⟩, B14.out⟩
      obtain ⟨P, rfl⟩ := Int.eq_ofNat_of_zero_le (show 0 ≤ port by omega)
      have hP16 : P < 16 := by omega
      have t3 : decide (0 ≤ (P : Int)) = true := decide_eq_true (by omega)
      have HGP2 : Hid (G.port = some P) := by show _ = _; rw [HGP.out, if_neg hp0]; simp
      have f8 := pushT_l (n := G.base) (by have := HG.out.b0; omega)
      go_wp2_with fail
      refine (HB.out.put_c 2 (by simp only [List.length_append, List.length_cons, List.length_nil]; omega) HCL.out).mono ?_
      rintro e wb ⟨rfl, hb⟩
      clear HB
      have HB := Lib.hid hb
      clear hb
      clear p3
      obtain ⟨PS, hPS⟩ : ∃ x, x = decS P := ⟨_, rfl⟩
      have hPSs : PS.size ≤ 20 := by rw [hPS]; exact decS_s _ (by omega)
      have HIP : Hid (∀ W, Below B w2 W → Calls Tryz.prog 58 #[.int .i64 (P : Int)] W fun e w' => e = .returned (.string PS) ∧ Below W.heap.size W w') := fun W hW => by
        rw [hPS]; exact itoaN P (by omega) W (HLX.out W hW).tab
      have HSL := Lib.hid (send_lines P)
      rw [← hPS] at HSL
      have f9 : ([112, 117, 116, 32] ++ Lib.decDigits P ++ [32, 48, 10] ++ ([115, 101, 110, 100, 32] ++ Lib.decDigits P ++ [10])).length ≤ 100 := by
        have := dd20 (n := P) (by omega)
        simp only [List.length_append, List.length_cons, List.length_nil]; omega
      have HS3 : Hid (∀ W, Below B w2 W → W.cell? ⟨g, 3, none⟩ = some (.int .i64 (P : Int)) ∧ g < W.heap.size) := fun W hW => ⟨(hW.cell (p := ⟨g, 3, none⟩) HGB.out).trans HP3.out, Nat.lt_of_lt_of_le HGB.out (by rw [HBB.out]; exact hW.size)⟩
      have HSPL : Hid (∀ (W : World), BS G B kc kp (T ++ [112, 117, 115, 104, 32, 48, 10, 100, 114, 111, 112, 10] ++ (pushT G.base ++ [108, 111, 97, 100, 52, 32, 48, 10])) w2 W → Calls Tryz.prog 59 #[.pointer (some ⟨B, 0, none⟩), .slice (some ⟨W.heap.size, 0, none⟩) 2 2] (W.alloc (.cells #[.string ((⟨#[112, 117, 116, 32]⟩ : ByteArray) ++ PS ++ (⟨#[32, 48]⟩ : ByteArray)), .string ((⟨#[115, 101, 110, 100, 32]⟩ : ByteArray) ++ PS)] 9)) fun e w' => e = .returned (.tuple #[]) ∧ BS G B kc kp (T ++ [112, 117, 115, 104, 32, 48, 10, 100, 114, 111, 112, 10] ++ (pushT G.base ++ [108, 111, 97, 100, 52, 32, 48, 10]) ++ ([112, 117, 116, 32] ++ Lib.decDigits P ++ [32, 48, 10] ++ ([115, 101, 110, 100, 32] ++ Lib.decDigits P ++ [10]))) w2 w') := fun W hW =>
        hW.put_new [(⟨#[112, 117, 116, 32]⟩ : ByteArray) ++ PS ++ (⟨#[32, 48]⟩ : ByteArray), (⟨#[115, 101, 110, 100, 32]⟩ : ByteArray) ++ PS] _ 2 rfl HSL.out (by simp only [List.length_append, List.length_cons, List.length_nil] at f8 f9 ⊢; omega) (by simp)
      clear hPS HSL
      have z1 : ¬ 9223372036854775807 < 4 + PS.size := by omega
      have z2 : ¬ 9223372036854775807 < 4 + PS.size + 2 := by omega
      have z3 : ¬ 9223372036854775807 < 5 + PS.size := by omega
      go_upto_region 27 with fail
      have HB : Hid (BS G B kc kp (T ++ [112, 117, 115, 104, 32, 48, 10, 100, 114, 111, 112, 10] ++ (pushT G.base ++ [108, 111, 97, 100, 52, 32, 48, 10])) w2 wb.drew) := HB.out.below ((Below.refl _ _).drew)
      go_region_held3 (fun W => W.cell? ⟨g, 3, none⟩ = some (.int .i64 (P : Int)) ∧ g < W.heap.size)
        (first | exact HS3.out _ HB.out.bb | exact HS3.out _ (HB.out.bb.alloc (by have := HB.out.sz; omega) _)) (first
        | (go_at_call 58; (with_reducible refine (HIP.out _ HB.out.bb).mono ?_); rintro e wq ⟨rfl, hb⟩; have HB := Lib.hid (HB.out.below hb); clear hb)
        | (go_at_call 59; (refine (HSPL.out _ HB.out).mono ?_); rintro e wq ⟨rfl, hb⟩; have HB := Lib.hid hb; clear hb))
      all_goals
        have HC := Lib.hid (HB.out.put_new [⟨#[121, 105, 101, 108, 100]⟩] _ 1 rfl yield_lines (by simp only [List.length_append, List.length_cons, List.length_nil] at f8 f9 ⊢; omega) (by simp))
        go_wp2_with fail
        refine (HC.out).mono ?_
        rintro e wd ⟨rfl, hb⟩
        clear HB
        have HB := Lib.hid hb
        clear hb
        clear HC
        have HBF : Hid (BS G B kc kp (lgT G 0 G.ins ++ dtailT G) w2 wd) := by
          have h := HB.out
          show BS _ _ _ _ _ _ _
          rw [← HT.out]
          unfold dtailT
          rw [HGP2.out]
          simpa only [List.append_assoc] using h
        clear HB HS3 HSPL HIP
        have HB := HBF
        clear HBF
        -- parsed and assembled
        have HPA := Lib.hid (log_parse HG.out)
        have hok := log_ok HG.out
        have hln := log_len HG.out
        have HTL : Hid (((logA G).flatMap linL).length ≤ 524288) := by
          have h1 := flatM_len (f := linL) (m := 99) (logA G) (fun x hx => (lin_len (hok x hx).1 (hok x hx).2).2.2)
          show _ ≤ _; omega
        have HAOK : Hid (∀ i, i < (logA G).length → ((logA G).getD i al0).ok) := fun i hi => (hok _ (by rw [List.getD_eq_getElem?_getD, List.getElem?_eq_getElem hi]; exact List.getElem_mem hi)).2
        have HALN : Hid ((logA G).length ≤ 16384) := by show _ ≤ _; omega
        have HASM := Lib.hid (log_asm HG.out)
        have HFT := Lib.hid (log_text HG.out)
        have HNE : Hid ((logA G).flatMap linL ≠ []) := by
          show _ ≠ _
          rw [HFT.out]
          unfold dtailT
          intro h
          have := congrArg List.length h
          simp at this
        rw [← HFT.out] at HB
        obtain ⟨tx, htx⟩ : ∃ tx, tx = (logA G).flatMap linL := ⟨_, rfl⟩
        rw [← htx] at HPA HTL HNE HB
        obtain ⟨als, hals⟩ : ∃ als, als = logA G := ⟨_, rfl⟩
        rw [← hals] at HPA HAOK HALN HASM
        clear htx hok hln hals HFT
        go_wp2_with fail
        refine (wstr_any B B tx _ HB.out.wr HNE.out (by have := HTL.out; omega)).mono ?_
        rintro e w12 ⟨rfl, _, hb12, _⟩
        have B12 : Hid (Below B w2 w12) := HB.out.bb.trans hb12
        clear hb12 HB
        have HPR := Lib.hid (parse_any (⟨tx.toArray⟩ : ByteArray) w12 (by rw [← size_list]; have := HTL.out; simp; omega) (HLX.out _ B12.out))
        rw [show (⟨tx.toArray⟩ : ByteArray).data.toList = tx by simp, HPA.out] at HPR
        generalize (⟨tx.toArray⟩ : ByteArray) = TXB at *
        go_wp2_with fail
        refine HPR.out.mono ?_
        rintro e w13 ⟨⟨v13, rfl, ho13⟩, hb13⟩
        obtain ⟨aa, ac, rfl, hac1, hac2, hAL⟩ := als_of_own ho13
        have HAL := Lib.hid hAL
        have B13 : Hid (Below w.heap.size w w13) := B2.out.trans ((B12.out.mono HBW.out).trans (hb13.mono (Nat.le_trans B2.out.size B12.out.size)))
        have HASS := Lib.hid (asm_any als aa ac w13 HAL.out HAOK.out (by have := HALN.out; omega))
        rw [HASM.out] at HASS
        unfold maxLen at hac2
        clear ho13 hb13 hAL HPR B12
        go_wp2_with fail
        refine HASS.out.mono ?_
        rintro e w14 ⟨⟨v14, rfl, ho14⟩, hb14⟩
        have B14 : Hid (Below w.heap.size w w14) := B13.out.trans (hb14.mono B13.out.size)
        have HO14 := Lib.hid (own_low ho14 B13.out.size)
        clear ho14 hb14 HASS
        go_wp2_with fail
        go_ret2
        exact ⟨⟨_, rfl, HO14.out⟩, B14.out⟩
    have t2 : decide ((k : Int) < (m : Int)) = true := decide_eq_true (by omega)
    have i1 : (k : Int) < (m : Int) := by omega
    obtain ⟨ib, io, rfl, hib, hic⟩ := HA.out.cell (by rw [← HM.out]; omega)
    obtain ⟨n, hn⟩ : ∃ n, n = (l.getD k 0).toNat := ⟨_, rfl⟩
    have hnk := HINS.out k (by rw [← HM.out]; exact hk2)
    rw [← hn] at hnk
    have hn16 := hnk.2
    have BW : Hid (Below w.heap.size w wr) := B2.out.trans (HB.out.bb.mono HBW.out)
    have x0 : wr.cell? ⟨ib, io + k, none⟩ = some (.int .i64 (n : Int)) := by
      rw [hnk.1]; exact (BW.out.cell hib).trans (hic k (by rw [← HM.out]; exact hk2))
    have HSN : Hid (lgT G 0 (G.ins.take (k + 1)) = lgT G 0 (G.ins.take k) ++ (oneB G k n ++ (nL k ++ [58, 32]))) := by
      show _ = _
      have e1 : G.ins[k]? = some n := by rw [HGI.out k (by rw [← HM.out]; exact hk2), ← hn]
      obtain ⟨hk3, e2⟩ := List.getElem?_eq_some_iff.1 e1
      rw [List.take_succ_eq_append_getElem hk3, e2, lgT_snoc, List.length_take, Nat.min_eq_left (by omega), Nat.zero_add]
    obtain ⟨T, hT⟩ : ∃ T, T = lgT G 0 (G.ins.take k) := ⟨_, rfl⟩
    rw [← hT] at HB htl HSN
    have hkm : k < G.m := by rw [← HMG.out]; exact hk2
    have hwk := HG.out.wd (j := 1 + k) (by omega)
    have hwm := HG.out.wd (j := 1 + G.m) (by omega)
    have hwv := HG.out.wd (j := 2 + G.m) (by omega)
    have hwb : G.base < 4294967296 := HG.out.b0
    have f1 := inT_l (n := n) (by omega); have f2 := pushT_l (n := G.wd (1 + k)) (by omega); have f3 := nL_l (i := k) (by omega); have f4 := placeT_l HG.out
    have f5 := pushT_l (n := k) (by omega); have f6 := stT_l (n := G.wd (1 + G.m)) (by omega); have f7 := stT_l (n := G.wd (2 + G.m)) (by omega); have f8 := pushT_l (n := G.base) (by omega)
    clear hic hn hnk BW hil
    go_wp2_with fail
    refine (itoaN n (by omega) wr (HLX.out _ HB.out.bb).tab).mono ?_
    rintro e wa ⟨rfl, hb⟩
    have HBn := Lib.hid (HB.out.below hb)
    clear HB hb
    have HB := HBn
    clear HBn
    obtain ⟨NB, hNB⟩ : ∃ x, x = decS n := ⟨_, rfl⟩
    rw [← hNB]
    have hNBs : (NB).size ≤ 20 := by rw [hNB]; exact decS_s _ (by omega)
    have HNB := Lib.hid hNB
    clear hNB
    have HC := Lib.hid (HWD.out wa (1 + k) HB.out.bb (by omega))
    rw [show ((1 + k : Nat) : Int) = 1 + (k : Int) by omega] at HC
    go_wp2_with fail
    refine (HC.out).mono ?_
    rintro e wb ⟨rfl, hb⟩
    have HBn := Lib.hid (HB.out.below hb)
    clear HB hb
    have HB := HBn
    clear HBn
    obtain ⟨WK, hWK⟩ : ∃ x, x = decS (G.wd (1 + k)) := ⟨_, rfl⟩
    rw [← hWK]
    have hWKs : (WK).size ≤ 20 := by rw [hWK]; exact decS_s _ (by omega)
    have HWK := Lib.hid hWK
    clear hWK
    clear HC
    go_wp2_with fail
    refine (itoaN k (by omega) wb (HLX.out _ HB.out.bb).tab).mono ?_
    rintro e wc ⟨rfl, hb⟩
    have HBn := Lib.hid (HB.out.below hb)
    clear HB hb
    have HB := HBn
    clear HBn
    obtain ⟨NK, hNK⟩ : ∃ x, x = decS k := ⟨_, rfl⟩
    rw [← hNK]
    have hNKs : (NK).size ≤ 20 := by rw [hNK]; exact decS_s _ (by omega)
    have HNK := Lib.hid hNK
    clear hNK
    have HC := Lib.hid (HB.out.put_new [inS n, puS (G.wd (1 + k)), ld0, ⟨#[101, 113]⟩, ⟨#[112, 117, 115, 104, 32, 48]⟩, ⟨#[101, 113]⟩, (⟨#[122, 101, 114, 111, 32]⟩ : ByteArray) ++ nS k] _ 7 rfl (head_lines G k n) (by simp only [List.length_append, List.length_cons, List.length_nil]; omega) (by simp))
    unfold inS puS nS ld0 at HC
    rw [← HNB.out, ← HWK.out, ← HNK.out] at HC
    go_wp2_with fail
    refine (HC.out).mono ?_
    rintro e wd ⟨rfl, hb⟩
    clear HB
    have HB := Lib.hid hb
    clear hb
    clear HC
    -- the place
    go_wp2_with fail
    refine (HB.out.put_p pc (by simp only [List.length_append, List.length_cons, List.length_nil]; omega) HPL2.out).mono ?_
    rintro e we ⟨rfl, hb⟩
    clear HB
    have HB := Lib.hid hb
    clear hb
    go_wp2_with fail
    refine (itoaN k (by omega) we (HLX.out _ HB.out.bb).tab).mono ?_
    rintro e wf ⟨rfl, hb⟩
    have HBn := Lib.hid (HB.out.below hb)
    clear HB hb
    have HB := HBn
    clear HBn
    rw [← HNK.out]
    have HC := Lib.hid (HB.out.put_new [puS k, stS (G.wd (1 + G.m))] _ 2 rfl (sto_lines G k) (by simp only [List.length_append, List.length_cons, List.length_nil]; omega) (by simp))
    unfold puS stS at HC
    rw [← HNK.out, ← HPL.out] at HC
    go_wp2_with fail
    refine (HC.out).mono ?_
    rintro e wg ⟨rfl, hb⟩
    clear HB
    have HB := Lib.hid hb
    clear hb
    clear HC
    go_wp2_with fail
    refine (HB.out.put_p pc (by simp only [List.length_append, List.length_cons, List.length_nil]; omega) HPL2.out).mono ?_
    rintro e wh ⟨rfl, hb⟩
    clear HB
    have HB := Lib.hid hb
    clear hb
    have p0 : wh.cell? ⟨g, 0, none⟩ = some (.slice (some ⟨ib, io, none⟩) m ic) := (HB.out.bb.cell (p := ⟨g, 0, none⟩) HGB.out).trans HP0.out
    have HC := Lib.hid (HWD.out wh (2 + m) HB.out.bb (by omega))
    rw [show ((2 + m : Nat) : Int) = 2 + (m : Int) by omega, HMG.out] at HC
    rw [← HMG.out] at HC
    rw [show G.wd (2 + m) = G.wd (2 + G.m) by rw [HMG.out]] at HC
    go_wp2_with fail
    refine (HC.out).mono ?_
    rintro e wi ⟨rfl, hb⟩
    have HBn := Lib.hid (HB.out.below hb)
    clear HB hb
    have HB := HBn
    clear HBn
    clear p0 HC
    obtain ⟨WV, hWV⟩ : ∃ x, x = decS (G.wd (2 + G.m)) := ⟨_, rfl⟩
    rw [← hWV]
    have hWVs : (WV).size ≤ 20 := by rw [hWV]; exact decS_s _ (by omega)
    have HWV := Lib.hid hWV
    clear hWV
    have HC := Lib.hid (HB.out.put_new [inS n, stS (G.wd (2 + G.m))] _ 2 rfl (val_lines G n) (by simp only [List.length_append, List.length_cons, List.length_nil]; omega) (by simp))
    unfold inS stS at HC
    rw [← HNB.out, ← HWV.out] at HC
    go_wp2_with fail
    refine (HC.out).mono ?_
    rintro e wj ⟨rfl, hb⟩
    clear HB
    have HB := Lib.hid hb
    clear hb
    clear HC
    have HC := Lib.hid (HWD.out wj 0 HB.out.bb (by omega))
    rw [show ((0 : Nat) : Int) = 0 from rfl, show G.wd 0 = G.base from rfl] at HC
    go_wp2_with fail
    refine (HC.out).mono ?_
    rintro e wk ⟨rfl, hb⟩
    have HBn := Lib.hid (HB.out.below hb)
    clear HB hb
    have HB := HBn
    clear HBn
    rw [← HBA.out]
    clear HC
    have HC := Lib.hid (HB.out.put_new [puS G.base] _ 1 rfl (base_lines G) (by simp only [List.length_append, List.length_cons, List.length_nil]; omega) (by simp))
    unfold puS at HC
    rw [← HBA.out] at HC
    go_wp2_with fail
    refine (HC.out).mono ?_
    rintro e wl ⟨rfl, hb⟩
    clear HB
    have HB := Lib.hid hb
    clear hb
    clear HC
    go_wp2_with fail
    refine (HB.out.put_c 2 (by simp only [List.length_append, List.length_cons, List.length_nil]; omega) HCL.out).mono ?_
    rintro e wm ⟨rfl, hb⟩
    clear HB
    have HB := Lib.hid hb
    clear hb
    have HC := Lib.hid (HB.out.put_new [⟨#[112, 117, 115, 104, 32, 49]⟩, ⟨#[97, 100, 100]⟩, st0] _ 3 rfl inc_lines (by simp only [List.length_append, List.length_cons, List.length_nil]; omega) (by simp))
    unfold st0 at HC
    go_wp2_with fail
    refine (HC.out).mono ?_
    rintro e wn ⟨rfl, hb⟩
    clear HB
    have HB := Lib.hid hb
    clear hb
    clear HC
    have HC := Lib.hid (HB.out.put_new [puS (G.wd (1 + k)), inS n, st0] _ 3 rfl (was_lines G k n) (by simp only [List.length_append, List.length_cons, List.length_nil]; omega) (by simp))
    unfold puS inS st0 at HC
    rw [← HNB.out, ← HWK.out] at HC
    go_wp2_with fail
    refine (HC.out).mono ?_
    rintro e wo ⟨rfl, hb⟩
    clear HB
    have HB := Lib.hid hb
    clear hb
    clear HC
    have HC := Lib.hid (HB.out.ws ((⟨#[110]⟩ : ByteArray) ++ NK ++ (⟨#[58, 32]⟩ : ByteArray)) (by
      have e1 : ((⟨#[110]⟩ : ByteArray) ++ NK ++ (⟨#[58, 32]⟩ : ByteArray)).size = 1 + NK.size + 2 := by rw [ByteArray.size_append, ByteArray.size_append]; rfl
      rw [e1]
      simp only [List.length_append, List.length_cons, List.length_nil]; omega))
    go_wp2_with fail
    refine (HC.out).mono ?_
    rintro e wp ⟨rfl, hb⟩
    clear HB
    have HB := Lib.hid hb
    clear hb
    clear HC
    have HBF : Hid (BS G B kc kp (lgT G 0 (G.ins.take (k + 1))) w2 wp) := by
      have h := HB.out
      have e1 : ((⟨#[110]⟩ : ByteArray) ++ NK ++ (⟨#[58, 32]⟩ : ByteArray)).data.toList = nL k ++ [58, 32] := by rw [data_app, data_app, HNK.out, decS_data]; rfl
      rw [e1] at h
      show BS _ _ _ _ _ _ _
      rw [HSN.out]
      unfold oneB
      simpa only [List.append_assoc] using h
    clear HB
    go_wp2_with fail
    refine ⟨⟨k + 1, by omega, by go_num, HBF⟩, ?_⟩
    simp [intOf]; omega
end Go.Proofs.YtdlpgoackmgdkaaGreatDoor
