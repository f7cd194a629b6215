/- The document's Frame. -/
import Derived.Test.YtdlpgoackmgdkaaGreatDoorDiG
import Derived.Test.YtdlpgoackmgdkaaGreatDoorMaF
namespace Go.Proofs.YtdlpgoackmgdkaaGreatDoor
open Go.RowKit Go.Shelf
set_option linter.unusedVariables false
set_option linter.unusedSimpArgs false
theorem stepsS_snoc (s : Nat → Nat → (Nat → Nat) → (Nat → Nat)) (f : Nat → Nat) (x : Nat) : ∀ (l : List Nat) (i : Nat) (d : Nat → Nat), stepsS s f i (l ++ [x]) d = s (i + l.length) (f x) (stepsS s f i l d)
  | [], i, d => rfl
  | y :: r, i, d => by
    rw [List.cons_append, stepsS, stepsS, stepsS_snoc s f x r (i + 1), List.length_cons, show i + 1 + r.length = i + (r.length + 1) by omega]
theorem stepsS_lt {s : Nat → Nat → (Nat → Nat) → (Nat → Nat)} (hs : ∀ i x d, (∀ j, d j < 256) → ∀ j, s i x d j < 256) (f : Nat → Nat) : ∀ (l : List Nat) (i : Nat) (d : Nat → Nat), (∀ j, d j < 256) → ∀ j, stepsS s f i l d j < 256
  | [], i, d, h => h
  | y :: r, i, d, h => by rw [stepsS]; exact stepsS_lt hs f r (i + 1) _ (hs i (f y) d h)
theorem LG.steps_snoc (g : LG) (f : Nat → Nat) (i x : Nat) (l : List Nat) (d : Nat → Nat) : g.steps f i (l ++ [x]) d = g.step (i + l.length) (f x) (g.steps f i l d) := by unfold LG.steps; exact stepsS_snoc g.step f x l i d
theorem LG.steps_lt (g : LG) (f : Nat → Nat) (l : List Nat) (i : Nat) (d : Nat → Nat) (h : ∀ j, d j < 256) : ∀ j, g.steps f i l d j < 256 := by
  unfold LG.steps; exact stepsS_lt (fun i x d h => LG.step_lt h) f l i d h
def insRow (f : Nat → Nat) : Array Value := #[.int .u32 (f 0 : Int), .int .u32 (f 1 : Int), .int .u32 (f 2 : Int), .int .u32 (f 3 : Int), .int .u32 (f 4 : Int), .int .u32 (f 5 : Int), .int .u32 (f 6 : Int), .int .u32 (f 7 : Int), .int .u32 (f 8 : Int), .int .u32 (f 9 : Int), .int .u32 (f 10 : Int), .int .u32 (f 11 : Int), .int .u32 (f 12 : Int), .int .u32 (f 13 : Int), .int .u32 (f 14 : Int), .int .u32 (f 15 : Int)]
theorem insRow_get (f : Nat → Nat) {j : Nat} (h : j < 16) : (insRow f)[j]? = some (.int .u32 (f j : Int)) := by
  match j, h with
  | 0, _ => rfl
  | 1, _ => rfl
  | 2, _ => rfl
  | 3, _ => rfl
  | 4, _ => rfl
  | 5, _ => rfl
  | 6, _ => rfl
  | 7, _ => rfl
  | 8, _ => rfl
  | 9, _ => rfl
  | 10, _ => rfl
  | 11, _ => rfl
  | 12, _ => rfl
  | 13, _ => rfl
  | 14, _ => rfl
  | 15, _ => rfl
  | n + 16, h => omega
set_option maxRecDepth 100000 in
set_option maxHeartbeats 16000000 in
theorem rframe_any (l : List Int) (ia : Option Addr) (ic base : Nat) (size port : Int) (b n c : Nat) (d f : Nat → Nat) (w : World) (hA : IlAt w ia l) (hab : ∀ g o, ia = some ⟨g, o, none⟩ → g ≠ b) (hmay : mayD l base size port = true) (hR : RowAt w b 5 n (bytesV d)) (hnn : n = bytesN l.length size) (hd : ∀ j, d j < 256) (hf : ∀ j, f j < 4294967296) :
    Calls Tryz.prog 54 #[.agg #[.slice ia l.length ic, .int .u32 (base : Int), .int .i64 size, .int .i64 port], .slice (some ⟨b, 0, none⟩) n c, .agg (insRow f)] w fun e w' =>
      e = .returned (.int .u32 (wordD ((lgOf l base size port).frame f d) 0 : Int)) ∧ RowAt w' b 5 n (bytesV ((lgOf l base size port).frame f d)) ∧ Only (fun i => i = b) w w' := by
  obtain ⟨hG, hsz, hins, hp1, hp2, hbn⟩ := mayD_ok hmay
  obtain ⟨s, hs⟩ : ∃ s, s = size.toNat := ⟨_, rfl⟩
  rw [← hs] at hsz
  subst hsz
  obtain ⟨G, hGe⟩ : ∃ G, G = lgOf l base (s : Int) port := ⟨_, rfl⟩
  have hgm : G.m = l.length := by rw [hGe]; unfold lgOf LG.m; simp
  have hgs : G.size = s := by rw [hGe]; rfl
  have hgi : ∀ i, i < l.length → G.ins[i]? = some (l.getD i 0).toNat := fun i hi => by rw [hGe]; show (l.map Int.toNat)[i]? = _; rw [List.getElem?_map, List.getElem?_eq_getElem hi, List.getD_eq_getElem?_getD, List.getElem?_eq_getElem hi]; rfl
  rw [← hGe] at hG ⊢
  have hm16 : l.length ≤ 16 := by have := hG.m16; omega
  have hs1 : 1 ≤ s := by have := hG.s1; omega
  have hs2 : s ≤ 1000 := by have := hG.sm; omega
  have hnn2 : n = 4 + 4 * l.length + 8 * s := by rw [hnn]; unfold bytesN; omega
  have hn : n ≤ 1000000 := by omega
  clear hGe hnn hbn hmay hs
  have HINS := Lib.hid hins; have HA := Lib.hid hA; have HAB := Lib.hid hab; have HD := Lib.hid hd; have HF := Lib.hid hf
  have HGI := Lib.hid hgi; have HGM := Lib.hid hgm; have HGS := Lib.hid hgs
  obtain ⟨m, hmm⟩ : ∃ m, m = l.length := ⟨_, rfl⟩
  rw [← hmm] at hm16 hnn2 ⊢
  have HM := Lib.hid hmm
  have HNN := Lib.hid hnn2
  have hna : 4 + 4 * m + 8 * s ≤ n := by omega
  obtain ⟨w1, hw1⟩ : ∃ x, x = w.alloc (.cells #[.slice ia m ic, .int .u32 (base : Int), .int .i64 (s : Int), .int .i64 port] 57) := ⟨_, rfl⟩
  have b1 : Below w.heap.size w w1 := by rw [hw1]; exact alloc_below _ _
  have k1 : w1.heap[w.heap.size]? = some (.cells #[.slice ia m ic, .int .u32 (base : Int), .int .i64 (s : Int), .int .i64 port] 57 (0, 0)) := by rw [hw1]; exact heap_alloc_new _ _
  have hs1' : w1.heap.size = w.heap.size + 1 := by rw [hw1]; simp
  obtain ⟨w2, hw2⟩ : ∃ x, x = w1.alloc (.cells (insRow f) 46) := ⟨_, rfl⟩
  have b2 : Below w1.heap.size w1 w2 := by rw [hw2]; exact alloc_below _ _
  have k2 : w2.heap[w1.heap.size]? = some (.cells (insRow f) 46 (0, 0)) := by rw [hw2]; exact heap_alloc_new _ _
  have B2 : Hid (Below w.heap.size w w2) := b1.trans (b2.mono b1.size)
  have KL : Hid (w2.heap[w.heap.size]? = some (.cells #[.slice ia m ic, .int .u32 (base : Int), .int .i64 (s : Int), .int .i64 port] 57 (0, 0))) := kept k1 b2
  have KI : Hid (w2.heap[w.heap.size + 1]? = some (.cells (insRow f) 46 (0, 0))) := by rw [hs1'] at k2; exact k2
  have hbl := hR.lt
  have HR : Hid (RowAt w2 b 5 n (bytesV (G.steps f 0 (G.ins.take 0) d))) := by
    show RowAt _ _ _ _ _
    rw [List.take_zero, LG.steps_nil]; exact hR.same (B2.out.block _ hbl)
  obtain ⟨g, hg⟩ : ∃ g, g = w.heap.size := ⟨_, rfl⟩
  rw [← hg] at KL KI
  have hgb : g ≠ b := by omega
  have hgb2 : g + 1 ≠ b := by omega
  have HGx := Lib.hid hg
  have HW12 : Hid ((w.alloc (.cells #[.slice ia m ic, .int .u32 (base : Int), .int .i64 (s : Int), .int .i64 port] 57)).alloc (.cells #[.int .u32 (f 0 : Int), .int .u32 (f 1 : Int), .int .u32 (f 2 : Int), .int .u32 (f 3 : Int), .int .u32 (f 4 : Int), .int .u32 (f 5 : Int), .int .u32 (f 6 : Int), .int .u32 (f 7 : Int), .int .u32 (f 8 : Int), .int .u32 (f 9 : Int), .int .u32 (f 10 : Int), .int .u32 (f 11 : Int), .int .u32 (f 12 : Int), .int .u32 (f 13 : Int), .int .u32 (f 14 : Int), .int .u32 (f 15 : Int)] 46) = w2) := by show _ = _; rw [hw2, hw1]; rfl
  have HNE : Hid (g ≠ b ∧ g + 1 ≠ b) := ⟨hgb, hgb2⟩
  obtain ⟨RV, hRV⟩ : ∃ x, x = wordD (G.frame f d) 0 := ⟨_, rfl⟩
  rw [← hRV]
  have HRV := Lib.hid hRV
  have HGF : Hid (G.frame f d = G.steps f 0 (G.ins.take m) d) := by
    show _ = _
    unfold LG.frame
    rw [show G.ins.take m = G.ins from List.take_of_length_le (by have := hgm; unfold LG.m at this; omega)]
  clear hmm hnn2 hw1 hw2 k1 k2 b1 b2 hs1' hR hA hab hd hf hgi hgm hgs hG hins hg hgb hgb2 hbl hRV
  unfold insRow
  go_enter Tryz.func54, Tryz.ntmps54
  go_upto_region 1 with fail
  rw [HW12.out, ← HGx.out]
  clear HW12
  go_wp2_with fail
  go_loopw [7] (fun i wr => ∃ k : Nat, k ≤ m ∧ i = .int .i64 (k : Int) ∧ Hid (RowAt wr b 5 n (bytesV (G.steps f 0 (G.ins.take k) d))) ∧ Hid (Only (fun i => i = b) w2 wr)) (fun i _ => m - (intOf i).toNat)
  case atStart => exact ⟨0, Nat.zero_le _, rfl, HR, Only.refl _ _⟩
  case round =>
    clear HR
    obtain ⟨k, hk, rfl, HR, HO⟩ := hrel
    have KLr : wr.heap[g]? = some (.cells #[.slice ia m ic, .int .u32 (base : Int), .int .i64 (s : Int), .int .i64 port] 57 (0, 0)) := (HO.out.block _ (heap_lt KL.out) HNE.out.1).trans KL.out
    have KIr : wr.heap[g + 1]? = some (.cells (insRow f) 46 (0, 0)) := (HO.out.block _ (heap_lt KI.out) HNE.out.2).trans KI.out
    have p0 : wr.cell? ⟨g, 0, none⟩ = some (.slice ia m ic) := cell_row (j := 0) KLr rfl
    have p2 : wr.cell? ⟨g, 2, none⟩ = some (.int .i64 (s : Int)) := cell_row (j := 2) KLr rfl
    have lg := heap_lt KLr; have lg1 := heap_lt KIr
    have HDL := Lib.hid (LG.steps_lt G f (G.ins.take k) 0 d HD.out)
    rcases Nat.lt_or_ge k m with hk2 | hk2
    case inr =>
      obtain rfl : k = m := by omega
      have t2 : decide ((k : Int) < (k : Int)) = false := by simp
      rw [← HGF.out] at HR HDL
      have HNU := Lib.hid (num29_any _ n c 0 _ wr (row_db HR.out) HDL.out (by omega) (by omega))
      rw [← HRV.out, show ((0 : Nat) : Int) = 0 from rfl] at HNU
      have HOF : Hid (Only (fun i => i = b) w wr) := (Only.of_below (fun i => i = b) B2.out).trans HO.out
      clear p2 lg1 KLr KIr
      go_wp2_with fail
      refine HNU.out.mono ?_
      rintro e w9 ⟨rfl, rfl⟩
      clear HNU p0 lg
      go_wp2_with fail
      go_ret
      exact ⟨rfl, HR.out, HOF.out⟩
    have t2 : decide ((k : Int) < (m : Int)) = true := decide_eq_true (by omega)
    have i1 : (k : Int) < (m : Int) := by omega
    obtain ⟨ib, io, rfl, hib, hic⟩ := HA.out.cell (by rw [← HM.out]; omega)
    obtain ⟨x, hx⟩ : ∃ x, x = (l.getD k 0).toNat := ⟨_, rfl⟩
    have hnk := HINS.out k (by rw [← HM.out]; exact hk2)
    rw [← hx] at hnk
    have hx16 := hnk.2
    have x0 : wr.cell? ⟨ib, io + k, none⟩ = some (.int .i64 (x : Int)) := by
      rw [hnk.1]
      exact (only_cell HO.out ((B2.out.cell (p := ⟨ib, io + k, none⟩) hib).trans (hic k (by rw [← HM.out]; exact hk2))) (Nat.lt_of_lt_of_le hib B2.out.size) (HAB.out ib io rfl))
    have hibw : ib < wr.heap.size := Nat.lt_of_lt_of_le hib (Nat.le_trans B2.out.size HO.out.size)
    have x1 : wr.cell? ⟨g + 1, x, none⟩ = some (.int .u32 (f x : Int)) := cell_row KIr (insRow_get f hx16)
    have hfx := HF.out x
    have HSN : Hid (G.steps f 0 (G.ins.take (k + 1)) d = G.step k (f x) (G.steps f 0 (G.ins.take k) d)) := by
      show _ = _
      have e1 : G.ins[k]? = some x := by rw [HGI.out k (by rw [← HM.out]; exact hk2), ← hx]
      obtain ⟨hk3, e2⟩ := List.getElem?_eq_some_iff.1 e1
      rw [List.take_succ_eq_append_getElem hk3, e2, LG.steps_snoc, List.length_take, Nat.min_eq_left (by omega), Nat.zero_add]
    have HSD : Hid (∀ D : Nat → Nat, G.step k (f x) D = if wordD D (4 + 4 * k) = f x then D else putD (putD (putD (putD D (4 + 4 * m + 8 * (wordD D 0 % s)) k) (4 + 4 * m + 8 * (wordD D 0 % s) + 4) (f x)) 0 ((wordD D 0 + 1) % 4294967296)) (4 + 4 * k) (f x)) := fun D => by
      unfold LG.step LG.at
      rw [HGM.out, HGS.out, ← HM.out]
    generalize G.steps f 0 (G.ins.take k) d = D at *
    obtain ⟨D', hD'⟩ : ∃ x, x = G.steps f 0 (G.ins.take (k + 1)) d := ⟨_, rfl⟩
    rw [← hD'] at HSN
    have HDP := Lib.hid hD'
    clear hD'
    generalize f x = y at *
    have HNU := Lib.hid (num29_any _ n c (4 + 4 * k) D wr (row_db HR.out) HDL.out (by omega) (by omega))
    rw [show ((4 + 4 * k : Nat) : Int) = 4 + 4 * (k : Int) by omega] at HNU
    have HN0 := Lib.hid (num29_any _ n c 0 D wr (row_db HR.out) HDL.out (by omega) (by omega))
    rw [show ((0 : Nat) : Int) = 0 from rfl] at HN0
    have HSD1 := HSD.out D
    rw [← HSN.out] at HSD1
    have HSX := Lib.hid HSD1
    have hv1 := word_lt D HDL.out (4 + 4 * k)
    have hv0 := word_lt D HDL.out 0
    clear hic hx hnk KLr KIr HSD HSD1 HSN
    generalize wordD D (4 + 4 * k) = v at *
    by_cases e : v = y
    case pos =>
      have t3 : ((v : Int) == (y : Int)) = true := beq_iff_eq.2 (by omega)
      have HE : Hid (D' = D) := by show _ = _; rw [HSX.out, if_pos e]
      rw [← HE.out] at HR
      clear HSX e
      go_wp2_with fail
      refine HNU.out.mono ?_
      rintro e w9 ⟨rfl, rfl⟩
      clear HNU
      go_wp2_with fail
      refine ⟨⟨k + 1, by omega, by go_num, by rw [← HDP.out]; exact HR, HO⟩, ?_⟩
      simp [intOf]; omega
    have t3 : ((v : Int) == (y : Int)) = false := beq_eq_false_iff_ne.2 (by omega)
    have HE := HSX.out
    rw [if_neg e] at HE
    have HE := Lib.hid HE
    clear HSX e
    go_wp2_with fail
    refine HNU.out.mono ?_
    rintro e w9 ⟨rfl, rfl⟩
    clear HNU
    generalize wordD D 0 = cn at *
    have hcm : cn % s < s := Nat.mod_lt _ (by omega)
    obtain ⟨cm, hcme⟩ : ∃ cm, cm = cn % s := ⟨_, rfl⟩
    have HCM := Lib.hid hcme
    go_wp2_with fail
    refine HN0.out.mono ?_
    rintro e w9 ⟨rfl, rfl⟩
    clear HN0
    have HRQ : Hid (∀ q, RowAt (w9.drewN q) b 5 n (bytesV D)) := fun q => HR.out
    have HOQ : Hid (∀ q, Only (fun i => i = b) w2 (w9.drewN q)) := fun q => HO.out.trans (Only.of_below _ (belowN (Below.refl _ _) q))
    have hcm3 : cn % s < s := Nat.mod_lt _ (by omega)
    have HW1 : Hid (∀ (W : World) (D : Nat → Nat), RowAt W b 5 n (bytesV D) → Calls Tryz.prog 84 #[.slice (some ⟨b, 0, none⟩) n c, .int .i64 (4 + 4 * (m : Int) + 8 * ((cn : Int) % (s : Int))), .int .u32 ((k : Int))] W fun e w' => e = .returned (.tuple #[]) ∧ RowAt w' b 5 n (bytesV (putD D (4 + 4 * m + 8 * (cn % s)) (k))) ∧ Only (fun i => i = b) W w') := fun W D h => by
      have := word29_any b n c (4 + 4 * m + 8 * (cn % s)) (k) D W h (by omega) (by omega) hn
      rw [show ((4 + 4 * m + 8 * (cn % s) : Nat) : Int) = 4 + 4 * (m : Int) + 8 * ((cn : Int) % (s : Int)) by simp, show ((k : Nat) : Int) = (k : Int) by rfl] at this
      exact this
    have HW2 : Hid (∀ (W : World) (D : Nat → Nat), RowAt W b 5 n (bytesV D) → Calls Tryz.prog 84 #[.slice (some ⟨b, 0, none⟩) n c, .int .i64 (4 + 4 * (m : Int) + 8 * ((cn : Int) % (s : Int)) + 4), .int .u32 ((y : Int))] W fun e w' => e = .returned (.tuple #[]) ∧ RowAt w' b 5 n (bytesV (putD D (4 + 4 * m + 8 * (cn % s) + 4) (y))) ∧ Only (fun i => i = b) W w') := fun W D h => by
      have := word29_any b n c (4 + 4 * m + 8 * (cn % s) + 4) (y) D W h (by omega) (by omega) hn
      rw [show ((4 + 4 * m + 8 * (cn % s) + 4 : Nat) : Int) = 4 + 4 * (m : Int) + 8 * ((cn : Int) % (s : Int)) + 4 by simp, show ((y : Nat) : Int) = (y : Int) by rfl] at this
      exact this
    have HW3 : Hid (∀ (W : World) (D : Nat → Nat), RowAt W b 5 n (bytesV D) → Calls Tryz.prog 84 #[.slice (some ⟨b, 0, none⟩) n c, .int .i64 (0), .int .u32 (((cn : Int) + 1) % 4294967296)] W fun e w' => e = .returned (.tuple #[]) ∧ RowAt w' b 5 n (bytesV (putD D (0) ((cn + 1) % 4294967296))) ∧ Only (fun i => i = b) W w') := fun W D h => by
      have := word29_any b n c (0) ((cn + 1) % 4294967296) D W h (by omega) (by omega) hn
      rw [show ((0 : Nat) : Int) = 0 by rfl, show (((cn + 1) % 4294967296 : Nat) : Int) = ((cn : Int) + 1) % 4294967296 by omega] at this
      exact this
    have HW4 : Hid (∀ (W : World) (D : Nat → Nat), RowAt W b 5 n (bytesV D) → Calls Tryz.prog 84 #[.slice (some ⟨b, 0, none⟩) n c, .int .i64 (4 + 4 * (k : Int)), .int .u32 ((y : Int))] W fun e w' => e = .returned (.tuple #[]) ∧ RowAt w' b 5 n (bytesV (putD D (4 + 4 * k) (y))) ∧ Only (fun i => i = b) W w') := fun W D h => by
      have := word29_any b n c (4 + 4 * k) (y) D W h (by omega) (by omega) hn
      rw [show ((4 + 4 * k : Nat) : Int) = 4 + 4 * (k : Int) by omega, show ((y : Nat) : Int) = (y : Int) by rfl] at this
      exact this
    clear HR HO hcm3 HCM
    go_upto_region 7 with fail
    go_quiet (fail)
    go_wp2_with fail
    refine (HW1.out _ _ (HRQ.out _)).mono ?_
    rintro e wa ⟨rfl, hr, ho⟩
    have HR := Lib.hid hr
    have HO := Lib.hid ((HOQ.out _).trans ho)
    clear hr ho HRQ HOQ
    go_wp2_with fail
    refine (HW2.out _ _ HR.out).mono ?_
    rintro e wb ⟨rfl, hr, ho⟩
    have HRn := Lib.hid hr
    have HOn := Lib.hid (HO.out.trans ho)
    clear HR HO hr ho
    have HR := HRn
    have HO := HOn
    clear HRn HOn
    go_wp2_with fail
    refine (HW3.out _ _ HR.out).mono ?_
    rintro e wc ⟨rfl, hr, ho⟩
    have HRn := Lib.hid hr
    have HOn := Lib.hid (HO.out.trans ho)
    clear HR HO hr ho
    have HR := HRn
    have HO := HOn
    clear HRn HOn
    go_wp2_with fail
    refine (HW4.out _ _ HR.out).mono ?_
    rintro e wd ⟨rfl, hr, ho⟩
    have HRn := Lib.hid hr
    have HOn := Lib.hid (HO.out.trans ho)
    clear HR HO hr ho
    have HR := HRn
    have HO := HOn
    clear HRn HOn
    rw [← HE.out] at HR
    clear HW1 HW2 HW3 HW4
    go_wp2_with fail
    refine ⟨⟨k + 1, by omega, by go_num, by rw [← HDP.out]; exact HR, HO⟩, ?_⟩
    simp [intOf]; omega
end Go.Proofs.YtdlpgoackmgdkaaGreatDoor
