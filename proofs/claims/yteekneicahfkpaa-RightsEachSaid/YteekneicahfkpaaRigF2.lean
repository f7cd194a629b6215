/- rights.Free: the iterator. -/
import Derived.Test.YteekneicahfkpaaRigF1
import Derived.Sort.LoopGhostIn
import Derived.Outline
import Derived.Sort.CutIn
namespace Go.Proofs.Yteekneicahfkpaa
open Go.RowKit Go.Shelf
set_option linter.unusedVariables false
attribute [local go_sem] Oper.semAt_some
def gst (m : Nat) (rs : List Reg) (k : Nat) : Nat × List (Nat × Nat) := (rs.take k).foldl (gstep m) (0, [])
theorem gst_succ {m : Nat} {rs : List Reg} {k : Nat} {r : Reg} (h : rs[k]? = some r) : gst m rs (k + 1) = gstep m (gst m rs k) r := by
  unfold gst
  rw [List.take_add_one, h, List.foldl_append]
  rfl
theorem gst_pref (m : Nat) (rs : List Reg) (k : Nat) : ∃ T, (gaps m rs).2 = (gst m rs k).2 ++ T := by
  refine ⟨((rs.drop k).foldl (gstep m) ((gst m rs k).1, [])).2, ?_⟩
  rw [← gstep_out m _ _ (rs.drop k)]
  unfold gaps gst
  rw [show ((rs.take k).foldl (gstep m) (0, [])).1 = ((rs.take k).foldl (gstep m) (0, [])).fst from rfl]
  show _ = ((rs.drop k).foldl (gstep m) ((rs.take k).foldl (gstep m) (0, []))).2
  rw [← List.foldl_append, List.take_append_drop]
theorem gst_all (m : Nat) (rs : List Reg) : gst m rs rs.length = gaps m rs := by unfold gst gaps; rw [List.take_length]
theorem gst_bd (m : Nat) (rs : List Reg) (h : ∀ r ∈ rs, r.ok) : ∀ k, (gst m rs k).1 < 8589934592
  | 0 => by unfold gst; simp
  | k + 1 => by
    have ih := gst_bd m rs h k
    cases hr : rs[k]? with
    | none => unfold gst at *; rw [List.take_add_one, hr]; simpa using ih
    | some r =>
      rw [gst_succ hr]
      have hk := h r (List.mem_of_getElem? hr)
      have := hk.base; have := hk.size
      unfold gstep
      split
      · exact ih
      · simp only; omega
def encG (G : List (Nat × Nat)) (x : Nat) : Array Value := #[.int .u32 ((G.getD x (0, 0)).1 : Int), .int .u32 ((G.getD x (0, 0)).2 : Int)]
theorem encG_at {G O T : List (Nat × Nat)} {a b : Nat} (h : G = (O ++ [(a, b)]) ++ T) : encG G O.length = #[.int .u32 (a : Int), .int .u32 (b : Int)] ∧ O.length < G.length := by
  subst h
  exact ⟨by unfold encG; simp, by simp⟩
theorem ok_mem (m : Nat) (hm : m < 4294967296) : (⟨m, 1, 0⟩ : Reg).ok := ⟨hm, by show 1 < 4294967296; decide, by show 0 < 256; decide⟩
/-- The row that is gone over. -/
def RowR (w : World) (g n : Nat) (R : Nat → Reg) : Prop := ∃ cur, w.heap[g]? = some (.cells cur 24 (0, 0)) ∧ ∀ i, i < n → ∀ j, j < 3 → cur[i * 3 + j]? = some (regV (R i) j)
theorem RowR.cell {w : World} {g n : Nat} {R : Nat → Reg} (h : RowR w g n R) {i j : Nat} (hi : i < n) (hj : j < 3) : w.cell? ⟨g, i * 3 + j, none⟩ = some (regV (R i) j) := by
  obtain ⟨cur, h1, h2⟩ := h
  exact cell_row h1 (h2 i hi j hj)
theorem RowR.below {w w' : World} {g n : Nat} {R : Nat → Reg} (h : RowR w g n R) (hb : Below w.heap.size w w') : RowR w' g n R := by
  obtain ⟨cur, h1, h2⟩ := h
  exact ⟨cur, kept h1 hb, h2⟩
theorem RowR.keep {w w' : World} {g n : Nat} {R : Nat → Reg} {Fb : Nat → Prop} (h : RowR w g n R) (hk : KeepF Fb w w') (hg : Fb g) : RowR w' g n R := by
  obtain ⟨cur, h1, h2⟩ := h
  exact ⟨cur, hk _ _ hg h1, h2⟩
theorem FbOk.ext {Kb Fb : Nat → Prop} {W A B : World} (h : FbOk Kb Fb W A) (hs : W.heap.size ≤ A.heap.size) (hb : A.heap.size ≤ B.heap.size) : FbOk Kb (extF Fb A B) W B := by
  rintro b (hb' | hb')
  · exact ⟨Nat.lt_of_lt_of_le (h b hb').1 hb, (h b hb').2⟩
  · exact ⟨hb'.2, .inr (Nat.le_trans hs hb'.1)⟩
theorem RowR.of_own {w : World} {base n : Nat} {v : Value} {R : Nat → Reg} (hn : 0 < n) (h : w.ownsRow base 24 3 v n (flatC 3 n (regC R))) : ∃ g cap, v = .slice (some ⟨g, 0, none⟩) n cap ∧ base ≤ g ∧ g < w.heap.size ∧ cap ≤ maxLen ∧ n ≤ cap ∧ RowR w g n R := by
  rcases h.2 with ⟨_, h0⟩ | ⟨g, cap, cur, hv, hg, hb, h1, h2, h3, h4⟩
  · omega
  · refine ⟨g, cap, hv, hg, heap_lt hb, h2, h1, cur, hb, fun i hi j hj => ?_⟩
    have := flatC_at 3 n (regC R) hi hj
    rw [← h4] at this
    have hlt : i * 3 + j < n * 3 := by omega
    rw [List.getElem?_take_of_lt hlt, Array.getElem?_toList] at this
    exact this
theorem flatC_snoc (sz n : Nat) (C : Nat → Nat → Value) : flatC sz (n + 1) C = flatC sz n C ++ (List.range sz).map (C n) := by
  apply List.ext_getElem?
  intro j
  by_cases h : j < n * sz
  · rw [List.getElem?_append_left (by rw [flatC_len]; exact h), flatC_get _ _ _ h, flatC_get _ _ _ (by rw [Nat.succ_mul]; omega)]
  · rw [List.getElem?_append_right (by rw [flatC_len]; omega), flatC_len]
    by_cases h2 : j - n * sz < sz
    · obtain ⟨d, rfl⟩ : ∃ d, j = n * sz + d := ⟨j - n * sz, by omega⟩
      have hd : d < sz := by omega
      rw [flatC_at sz (n + 1) C (Nat.lt_succ_self n) hd]
      simp [hd]
    · rw [List.getElem?_eq_none (by rw [flatC_len, Nat.succ_mul]; omega), List.getElem?_eq_none (by simp; omega)]
/-- The regions that are gone over: the sorted ones, and one at the memory's end. -/
def withEnd (S : Nat → Reg) (len mem : Nat) (i : Nat) : Reg := if i < len then S i else ⟨mem, 1, 0⟩
theorem withEnd_flat (S : Nat → Reg) (len mem : Nat) : flatC 3 (len + 1) (regC (withEnd S len mem)) = flatC 3 len (regC S) ++ [.int .u32 (mem : Int), .int .u32 1, .int .u8 0] := by
  rw [flatC_snoc, flatC_congr 3 len (C := regC (withEnd S len mem)) (D := regC S) (fun i hi j => by unfold regC withEnd; rw [if_pos hi])]
  congr 1
  unfold regC withEnd
  rw [if_neg (by omega)]
  rfl
theorem withEnd_list (S : Nat → Reg) (len mem : Nat) : (List.range (len + 1)).map (withEnd S len mem) = (List.range len).map S ++ [(⟨mem, 1, 0⟩ : Reg)] := by
  rw [List.range_succ, List.map_append]
  congr 1
  · apply List.map_congr_left
    intro i hi
    unfold withEnd; rw [if_pos (by simpa using hi)]
  · simp [withEnd]
set_option maxRecDepth 100000 in
set_option maxHeartbeats 4000000 in
theorem free1_in (n : Nat) (a : Option Addr) (len cap : Nat) (L : Nat → Reg) (mem mb lb : Nat) (w : World) (hn : len ≤ 100000) (hm : mem < 4294967296) (hL : RegsAt w a len L)
    (hM : w.heap[mb]? = some (.cells #[.int .u32 (mem : Int)] 22 (0, 0))) (hS : w.heap[lb]? = some (.cells #[.slice a len cap] 29 (0, 0))) :
    SeqC Fence.wide n Try.prog 23 #[.pointer (some ⟨mb, 0, none⟩), .pointer (some ⟨lb, 0, none⟩)] (encG (frees L len mem)) (fun b => b = mb) (frees L len mem).length w := by
  intro l J Jx W hW hJ hJx h0 hY
  have HLk := Lib.hid hL.2
  have HL : Hid (RegsAt W a len L) := hL.below hW
  have HM : Hid (W.heap[mb]? = some (.cells #[.int .u32 (mem : Int)] 22 (0, 0))) := kept hM hW
  have hS' : W.heap[lb]? = some (.cells #[.slice a len cap] 29 (0, 0)) := kept hS hW
  have HB := Lib.hid hW.size
  have m0 := cell_row (j := 0) HM.out rfl
  have l0 := cell_row (j := 0) hS' rfl
  clear hL hM hS hS' hW
  by_cases hbig : 262144 < mem
  · have t1 : decide (262144 < (mem : Int)) = true := by simp; omega
    have HN : Hid ((frees L len mem).length = 0) := by show _ = _; unfold frees; rw [if_pos hbig]; rfl
    refine callsIn_of_wp Try.func23 rfl trivial ?_ rfl
    simp only [Try.ntmps23, List.size_toArray, List.length_cons, List.length_nil, Nat.reduceAdd, Nat.reduceSub, Array.replicate_succ, Array.replicate_zero, List.push_toArray, List.append_toArray, List.nil_append, List.cons_append]
    gi_wp2_with (fail)
    refine bodyPost_ret (results_none rfl _ _ _) rfl ?_
    exact ⟨⟨_, rfl⟩, .inl ⟨_, by rw [HN.out]; exact h0⟩⟩
  · have t1 : decide (262144 < (mem : Int)) = false := by simp; omega
    obtain ⟨G, hG⟩ : ∃ G, G = frees L len mem := ⟨_, rfl⟩
    rw [← hG] at hY ⊢
    have HG : Hid (G = runs (freeB L len) mem) := by show _ = _; rw [hG]; unfold frees; rw [if_neg hbig]
    clear hG
    have H0 := Lib.hid h0
    clear h0
    refine callsIn_of_wp Try.func23 rfl trivial ?_ rfl
    simp only [Try.ntmps23, List.size_toArray, List.length_cons, List.length_nil, Nat.reduceAdd, Nat.reduceSub, Array.replicate_succ, Array.replicate_zero, List.push_toArray, List.append_toArray, List.nil_append, List.cons_append]
    gi_wp2_with (fail)
    refine ⟨trivial, fun h => (by cases h), (callsIn_wide.2 (clone_reg a len cap L W (by omega) HL.out)).mono ?_⟩
    rintro e w1 ⟨v1, rfl, ho1, hb1⟩
    have O1 := Lib.hid ho1; have B1 := Lib.hid hb1
    clear ho1 hb1 l0 HL
    gi_wp2_with (fail)
    refine ⟨trivial, fun h => (by cases h), (callsIn_wide.2 (sort_reg len v1 W.heap.size L w1 HLk.out (by omega) O1.out)).mono ?_⟩
    rintro e w2 ⟨rfl, ⟨S, hSk, hSp, hSs, ho2⟩, hg2⟩
    have B2 : Hid (Below W.heap.size W w2) := B1.out.grown hg2 B1.out.size (by
      rcases O1.out.2 with ⟨h, _⟩ | ⟨g, _, _, h, hg, _⟩
      · intro k hk; rw [h] at hk; cases hk
      · intro k hk; rw [h] at hk; simp [Value.ownBlock] at hk; omega)
    have O2 := Lib.hid ho2; have HSk := Lib.hid hSk
    have HSp := Lib.hid hSp; have HSs := Lib.hid hSs
    have M2 := Lib.hid (kept HM.out B2.out)
    clear hSk hSp hSs ho2 hg2 m0
    have m0 := cell_row (j := 0) M2.out rfl
    obtain ⟨i0, hi, hz0, hz1, hz2⟩ := info_parts infoR
    have HIn := Lib.hid hi; have HZ0 := Lib.hid hz0; have HZ1 := Lib.hid hz1; have HZ2 := Lib.hid hz2
    have HBW := Lib.hid B2.out.size
    clear hi hz0 hz1 hz2
    gi_wp2_with (gi_at_builtin; refine wpListIn_append_own _ rfl _ _ 29 rfl W.heap.size 24 i0 (.agg #[.int .u32 0, .int .u32 0, .int .u8 0]) 3 12 Try.underlying29 HIn.out HZ0.out HZ1.out HZ2.out rfl (by decide) v1 len _ rfl (O2.out.alloc _) ⟨w2.heap.size, 0, none⟩ 1 1 [.int .u32 (mem : Int), .int .u32 1, .int .u8 0] rfl rfl ?c1 ?c2 ?c3 ?c4 ?c5 ?_)
    case c1 =>
      intro j u h
      rw [Go.WideShapes.add_plain]
      match j, h with
      | 0, h => simp at h; subst h; simp
      | 1, h => simp at h; subst h; simp
      | 2, h => simp at h; subst h; simp
      | j + 3, h => simp at h
    case c2 => intro u hu; simp at hu; rcases hu with rfl | rfl | rfl <;> rfl
    case c3 => unfold maxLen; omega
    case c4 => omega
    case c5 => simp; have := HBW.out; omega
    intro v3 w3 hown3 hgr3 _
    have hrow : ∀ k, v1.ownBlock = some k → W.heap.size ≤ k := by
      rcases O1.out.2 with ⟨h, _⟩ | ⟨g, _, _, h, hg, _⟩
      · intro k hk; rw [h] at hk; cases hk
      · intro k hk; rw [h] at hk; simp [Value.ownBlock] at hk; omega
    have B3 : Hid (Below W.heap.size W w3) := (B2.out.alloc B2.out.size _).grown hgr3 (by simp; have := B2.out.size; omega) hrow
    have M3 := Lib.hid (kept HM.out B3.out)
    obtain ⟨rs, hrs⟩ : ∃ rs, rs = (List.range (len + 1)).map (withEnd S len mem) := ⟨_, rfl⟩
    have HRS := Lib.hid hrs
    have HRok : Hid (∀ i, (withEnd S len mem i).ok) := fun i => by unfold withEnd; split; exact HSk.out i; exact ok_mem mem hm
    have HGR : Hid (G = (gaps mem rs).2) := by
      show _ = _
      rw [HG.out, hrs, withEnd_list]
      exact (gaps_eq L len mem _ HSs.out HSp.out).symm
    rw [← withEnd_flat] at hown3
    obtain ⟨g, cap3, hv3, hgb, hgl, hc3, hc4, hR3⟩ := RowR.of_own (by omega) hown3
    subst hv3
    have R3 := Lib.hid hR3
    have hc5 : len + 1 ≤ 9223372036854775807 := by omega
    have HGB := Lib.hid hgb
    have J3 := Lib.hid (hJ 0 _ W w3 H0.out B3.out)
    have HMB : Hid (mb < W.heap.size) := heap_lt HM.out
    clear hrs hR3 hown3 hgr3 hrow O1 B1 O2 HSs HSp B2 M2 m0 HZ0 HZ1 HZ2 HIn HBW H0 HSk HG hgb HB HLk
    gi_wp2_with (fail)
    gi_loopw [5, 21] (fun at_ i wr => ∃ k : Nat, k ≤ len + 1 ∧ i = .int .i64 k ∧ at_ = .int .u64 ((gst mem rs k).1 : Int) ∧ (∃ Fb, J (gst mem rs k).2.length Fb wr ∧ FbOk (fun b => b = mb) Fb W wr ∧ Fb mb ∧ Fb g) ∧ wr.heap[mb]? = some (.cells #[.int .u32 (mem : Int)] 22 (0, 0)) ∧ RowR wr g (len + 1) (withEnd S len mem) ∧ W.heap.size ≤ wr.heap.size) (fun _ i _ => len + 1 - (intOf i).toNat)
    case atStart =>
      refine ⟨0, Nat.zero_le _, rfl, rfl, ⟨_, J3.out, ?_, .inl rfl, .inr ⟨HGB.out, hgl⟩⟩, M3.out, R3.out, B3.out.size⟩
      rintro b (hb | hb)
      · rw [hb]; exact ⟨heap_lt M3.out, .inl rfl⟩
      · exact ⟨hb.2, .inr hb.1⟩
    case round =>
      obtain ⟨k, hk, rfl, rfl, ⟨Fb, hj, hf, hfm, hfg⟩, hmm, hrr, hsz⟩ := hrel
      obtain ⟨w4, rfl⟩ : ∃ w4 : World, w4 = wr := ⟨_, rfl⟩
      have J4 := Lib.hid hj; have F4 := Lib.hid hf; have FM4 := Lib.hid hfm; have FG4 := Lib.hid hfg
      have M4 := Lib.hid hmm; have R4 := Lib.hid hrr
      have HSZ := Lib.hid hsz
      have hqb := gst_bd mem rs (fun r hr => by rw [HRS.out] at hr; obtain ⟨i, _, rfl⟩ := List.mem_map.1 hr; exact HRok.out i) k
      clear hj hf hfm hfg hmm hrr J3 M3 R3 B3 HGB hgl hsz
      by_cases hlt : k < len + 1
      · have x0 := R4.out.cell (j := 0) hlt (by omega)
        have x1 := R4.out.cell (j := 1) hlt (by omega)
        have x2 := R4.out.cell (j := 2) hlt (by omega)
        have HK := Lib.hid (HRok.out k)
        have HGS : Hid (gst mem rs (k + 1) = gstep mem (gst mem rs k) (withEnd S len mem k)) := gst_succ (by rw [HRS.out]; simp [hlt])
        have HPR := Lib.hid (gst_pref mem rs (k + 1))
        have hr0 := HK.out.base; have hr1 := HK.out.size
        generalize withEnd S len mem k = r at *
        obtain ⟨b, s, t⟩ := r
        have y0 : w4.cell? ⟨g, k * 3, none⟩ = some (.int .u32 (b : Int)) := x0
        have y1 : w4.cell? ⟨g, k * 3 + 1, none⟩ = some (.int .u32 (s : Int)) := x1
        have y2 : w4.cell? ⟨g, k * 3 + 2, none⟩ = some (.int .u8 (t : Int)) := x2
        clear x0 x1 x2
        simp only at hr0 hr1
        obtain ⟨q, O, hgq⟩ : ∃ q O, gst mem rs k = (q, O) := ⟨_, _, rfl⟩
        rw [hgq] at J4 hqb HGS
        simp only [hgq] 
        have m0 := cell_row (j := 0) M4.out rfl
        have mlt := heap_lt M4.out
        have HGQ := Lib.hid hgq
        clear hgq
        simp only at J4 hqb
        obtain ⟨w5, hw5⟩ : ∃ x, x = w4.alloc (.cells #[.int .u32 (b : Int), .int .u32 (s : Int), .int .u8 (t : Int)] 24) := ⟨_, rfl⟩
        have B5 : Hid (Below w4.heap.size w4 w5) := by rw [hw5]; exact alloc_below _ _
        have K5 : Hid (w5.heap[w4.heap.size]? = some (.cells #[.int .u32 (b : Int), .int .u32 (s : Int), .int .u8 (t : Int)] 24 (0, 0))) := by rw [hw5]; exact heap_alloc_new _ _
        have HW5 := Lib.hid hw5
        have M5 := Lib.hid (kept M4.out B5.out)
        have R5 : Hid (RowR w5 g (len + 1) (withEnd S len mem)) := R4.out.below B5.out
        have J5 := Lib.hid (hJ _ Fb w4 w5 J4.out B5.out)
        have SZ5 : Hid (W.heap.size ≤ w5.heap.size) := Nat.le_trans HSZ.out B5.out.size
        have F5 : Hid (FbOk (fun b => b = mb) (extF Fb w4 w5) W w5) := F4.out.ext HSZ.out B5.out.size
        have G5 : Hid (extF Fb w4 w5 w4.heap.size) := .inr ⟨Nat.le_refl _, heap_lt K5.out⟩
        have HE2 := Lib.hid (fun V => end_any ⟨b, s, t⟩ V HK.out)
        unfold Reg.val at HE2
        simp only at HE2
        clear hw5
        cases t2 : ((s : Int) == 0)
        case true =>
          have hs0 : s = 0 := by have h : (s : Int) = 0 := by simpa using t2
                                 omega
          have HG2 : Hid (gst mem rs (k + 1) = (q, O)) := by show _ = _; rw [HGS.out]; unfold gstep; rw [if_pos hs0]
          clear hs0
          gi_upto_region 7 with (fail)
          rw [← HW5.out]
          generalize hg7 : w4.heap.size = g7 at *
          have z0 := cell_row (j := 0) K5.out rfl
          have z1 := cell_row (j := 1) K5.out rfl
          have z2 := cell_row (j := 2) K5.out rfl
          have z3 := heap_lt K5.out
          clear m0 mlt y0 y1 y2
          have m0 := cell_row (j := 0) M5.out rfl
          have mlt := heap_lt M5.out
          gi_wp2_with (fail)
          go_roundw
          case rel => exact ⟨k + 1, by omega, by go_num, by rw [HG2.out], ⟨_, by rw [HG2.out]; exact J5.out, F5.out, .inl FM4.out, .inl FG4.out⟩, M5.out, R5.out, SZ5.out⟩
          case measure => simp [intOf]; omega
        case false =>
          have hs0 : s ≠ 0 := by intro e; subst e; simp at t2
          cases t3 : decide ((q : Int) < min (b : Int) (mem : Int))
          case false =>
            have HG2 : Hid (gst mem rs (k + 1) = (max q (b + s), O)) := by
              show _ = _
              have h := of_decide_eq_false t3
              rw [HGS.out]; unfold gstep; rw [if_neg hs0, if_neg (by show ¬ q < min b mem; omega)]
            clear hs0
            gi_upto_region 7 with (fail)
            rw [← HW5.out]
            generalize hg7 : w4.heap.size = g7 at *
            have z0 := cell_row (j := 0) K5.out rfl
            have z1 := cell_row (j := 1) K5.out rfl
            have z2 := cell_row (j := 2) K5.out rfl
            have z3 := heap_lt K5.out
            clear m0 mlt y0 y1 y2
            have m0 := cell_row (j := 0) M5.out rfl
            have mlt := heap_lt M5.out
            gi_wp2_with (fail)
            refine ⟨fun f h => (by cases h), ?_⟩
            gi_wp2_with (fail)
            refine ⟨trivial, fun h => (by cases h), ?_⟩
            (with_reducible refine (callsIn_wide.2 (HE2.out w5)).mono ?_)
            rintro e w7 ⟨rfl, hb7⟩
            have B7 := Lib.hid hb7
            clear hb7
            gi_wp2_with (fail)
            go_roundw
            case rel => exact ⟨k + 1, by omega, by go_num, by rw [HG2.out]; exact congrArg (Value.int .u64) (by simp; omega), ⟨_, by rw [HG2.out]; exact hJ _ _ _ _ J5.out B7.out, F5.out.ext SZ5.out B7.out.size, .inl (.inl FM4.out), .inl (.inl FG4.out)⟩, kept M5.out B7.out, R5.out.below B7.out, Nat.le_trans SZ5.out B7.out.size⟩
            case measure => simp [intOf]; omega
          case true =>
            have ht := of_decide_eq_true t3
            have HG2 : Hid (gst mem rs (k + 1) = (max q (b + s), O ++ [(q, min b mem - q)])) := by
              show _ = _
              rw [HGS.out]; unfold gstep; rw [if_neg hs0, if_pos (by show q < min b mem; omega)]
            obtain ⟨T, hT⟩ := HPR.out
            rw [← HGR.out, HG2.out] at hT
            have HX := Lib.hid (encG_at hT)
            have HV : Hid (encG G O.length = #[.int .u32 (q : Int), .int .u32 (min (b : Int) (mem : Int) - (q : Int))]) := by
              show _ = _
              rw [HX.out.1, show ((min b mem - q : Nat) : Int) = min (b : Int) (mem : Int) - (q : Int) by omega]
            clear hT hs0
            gi_upto_region 7 with (fail)
            rw [← HW5.out]
            generalize hg7 : w4.heap.size = g7 at *
            have z0 := cell_row (j := 0) K5.out rfl
            have z1 := cell_row (j := 1) K5.out rfl
            have z2 := cell_row (j := 2) K5.out rfl
            have z3 := heap_lt K5.out
            clear m0 mlt y0 y1 y2
            have m0 := cell_row (j := 0) M5.out rfl
            have mlt := heap_lt M5.out
            obtain ⟨fn, tmps, assign, body, hy, hR⟩ := hY O.length _ w5 HX.out.2 F5.out J5.out
            rw [HV.out] at hy
            gi_wp2_with (fail)
            refine ⟨fun h => (by cases h), hR.mono ?_⟩
            clear hy hR
            rintro e w6 (⟨rfl, q1, q2, q3⟩ | ⟨rfl, q1⟩)
            · have J6 := Lib.hid q1
              have M6 := Lib.hid (q2 _ _ (.inl FM4.out) M5.out)
              have R6 := Lib.hid (R5.out.keep q2 (.inl FG4.out))
              have K6 := Lib.hid (q2 _ _ G5.out K5.out)
              have SZ6 := Lib.hid (Nat.le_trans SZ5.out q3)
              have F6 : Hid (FbOk (fun b => b = mb) (extF Fb w4 w5) W w6) := fun b hb => ⟨Nat.lt_of_lt_of_le (F5.out b hb).1 q3, (F5.out b hb).2⟩
              clear q1 q2 q3 z0 z1 z2 z3 m0 mlt
              have z0 := cell_row (j := 0) K6.out rfl
              have z1 := cell_row (j := 1) K6.out rfl
              have z2 := cell_row (j := 2) K6.out rfl
              gi_wp2_with (fail)
              refine ⟨trivial, fun h => (by cases h), ?_⟩
              (with_reducible refine (callsIn_wide.2 (HE2.out w6)).mono ?_)
              rintro e w7 ⟨rfl, hb7⟩
              have B7 := Lib.hid hb7
              clear hb7
              gi_wp2_with (fail)
              go_roundw
              case rel => exact ⟨k + 1, by omega, by go_num, by rw [HG2.out]; exact congrArg (Value.int .u64) (by simp; omega), ⟨_, by rw [HG2.out, List.length_append]; exact hJ _ _ _ _ J6.out B7.out, F6.out.ext SZ6.out B7.out.size, .inl (.inl FM4.out), .inl (.inl FG4.out)⟩, kept M6.out B7.out, R6.out.below B7.out, Nat.le_trans SZ6.out B7.out.size⟩
              case measure => simp [intOf]; omega
            · have JX := Lib.hid q1
              clear q1
              gi_wp2_with (fail)
              refine bodyPost_ret (results_none rfl _ _ _) rfl ?_
              exact ⟨⟨_, rfl⟩, .inr ⟨_, _, Nat.succ_pos _, HX.out.2, JX.out⟩⟩
      · have HL2 : Hid (gst mem rs k = gaps mem rs) := by
          show _ = _
          rw [← gst_all]
          congr 1
          rw [HRS.out]; simp; omega
        have hge : decide ((k : Int) < (len : Int) + 1) = false := by simp; omega
        gi_wp2_with (fail)
        go_end0
        exact ⟨⟨_, rfl⟩, .inl ⟨_, by rw [HGR.out, ← HL2.out]; exact J4.out⟩⟩
end Go.Proofs.Yteekneicahfkpaa
