/- pairs: the iterator. -/
import Derived.Test.YteekneicahfkpaaRigF2
import Derived.Test.YteekneicahfkpaaRigC
namespace Go.Proofs.Yteekneicahfkpaa
open Go.RowKit Go.Shelf
set_option linter.unusedVariables false
set_option linter.unusedSimpArgs false
attribute [local go_sem] Oper.semAt_some
def tri : Nat → Nat | 0 => 0 | n + 1 => tri n + n
def prs : Nat → List (Nat × Nat) | 0 => [] | n + 1 => prs n ++ (List.range n).map fun k => (n, k)
theorem prs_len : ∀ n, (prs n).length = tri n
  | 0 => rfl
  | n + 1 => by unfold prs tri; rw [List.length_append, prs_len n]; simp
theorem prs_get {i k : Nat} (hk : k < i) : ∀ {n : Nat}, i < n → (prs n)[tri i + k]? = some (i, k)
  | n + 1, h => by
    unfold prs
    by_cases e : i = n
    · subst e
      rw [List.getElem?_append_right (by rw [prs_len]; omega), prs_len, Nat.add_sub_cancel_left]
      simp [hk]
    · have hi : i < n := by omega
      have := prs_get hk hi
      have hl : tri i + k < (prs n).length := by
        by_cases e2 : tri i + k < (prs n).length
        · exact e2
        · rw [List.getElem?_eq_none (by omega)] at this; cases this
      rw [List.getElem?_append_left hl]
      exact this
theorem prs_lt {i k n : Nat} (hk : k < i) (h : i < n) : tri i + k < tri n := by
  have := prs_get hk h
  by_cases e2 : tri i + k < (prs n).length
  · rw [prs_len] at e2; exact e2
  · rw [List.getElem?_eq_none (by omega)] at this; cases this
def encP (L : Nat → Reg) (n x : Nat) : Array Value := #[(L ((prs n).getD x (0, 0)).1).val, (L ((prs n).getD x (0, 0)).2).val]
theorem encP_at {L : Nat → Reg} {n i k : Nat} (hk : k < i) (h : i < n) : encP L n (tri i + k) = #[(L i).val, (L k).val] := by
  unfold encP
  rw [List.getD_eq_getElem?_getD, prs_get hk h]
  rfl
theorem RegsAt.keep {A B : World} {a : Option Addr} {n : Nat} {L : Nat → Reg} (h : RegsAt A a n L) (hk : ∀ b o, (∃ off, 0 < n ∧ a = some ⟨b, off, none⟩) → A.heap[b]? = some o → B.heap[b]? = some o) (hs : A.heap.size ≤ B.heap.size) : RegsAt B a n L := by
  refine ⟨?_, h.2⟩
  rcases Nat.eq_zero_or_pos n with e | e
  · exact .inl e
  · obtain ⟨b, off, rfl, hb, hc⟩ := h.1.at e
    refine .inr ⟨b, off, rfl, Nat.lt_of_lt_of_le hb hs, fun i hi j hj => ?_⟩
    have h1 := hk b _ ⟨off, e, rfl⟩ (Array.getElem?_eq_getElem hb)
    rw [← hc i hi j hj]
    exact World.cell?_of_block (by rw [h1, Array.getElem?_eq_getElem hb])
/-- What is kept from round to round. -/
structure PS (Kb : Nat → Prop) (lb : Nat) (a : Option Addr) (len cap : Nat) (L : Nat → Reg) (W : World) (Fb : Nat → Prop) (V : World) : Prop where
  ok : FbOk Kb Fb W V
  kb : ∀ b, Kb b → Fb b
  sz : W.heap.size ≤ V.heap.size
  bx : V.heap[lb]? = some (.cells #[.slice a len cap] 29 (0, 0))
  rg : RegsAt V a len L
theorem PS.below {Kb : Nat → Prop} {lb : Nat} {a : Option Addr} {len cap : Nat} {L : Nat → Reg} {W : World} {Fb : Nat → Prop} {A B : World} (h : PS Kb lb a len cap L W Fb A) (hb : Below A.heap.size A B) : PS Kb lb a len cap L W (extF Fb A B) B :=
  ⟨h.ok.ext h.sz hb.size, fun b hk => .inl (h.kb b hk), Nat.le_trans h.sz hb.size, kept h.bx hb, h.rg.below hb⟩
theorem PS.keep {Kb : Nat → Prop} {lb : Nat} {a : Option Addr} {len cap : Nat} {L : Nat → Reg} {W : World} {Fb : Nat → Prop} {A B : World} (h : PS Kb lb a len cap L W Fb A) (hk : KeepF Fb A B) (hs : A.heap.size ≤ B.heap.size) (h1 : Kb lb) (h2 : ∀ b, (∃ off, 0 < len ∧ a = some ⟨b, off, none⟩) → Kb b) : PS Kb lb a len cap L W Fb B :=
  ⟨fun b hb => ⟨Nat.lt_of_lt_of_le (h.ok b hb).1 hs, (h.ok b hb).2⟩, h.kb, Nat.le_trans h.sz hs, hk _ _ (h.kb _ h1) h.bx, h.rg.keep (fun b o hb ho => hk b o (h.kb b (h2 b hb)) ho) hs⟩
set_option maxRecDepth 100000 in
set_option maxHeartbeats 4000000 in
theorem pairs1_in (n : Nat) (a : Option Addr) (len cap : Nat) (L : Nat → Reg) (lb : Nat) (w : World) (hn : len ≤ 100000) (hc : len ≤ cap) (hL : RegsAt w a len L)
    (hS : w.heap[lb]? = some (.cells #[.slice a len cap] 29 (0, 0))) :
    SeqC Fence.wide n Try.prog 33 #[.pointer (some ⟨lb, 0, none⟩)] (encP L len) (fun b => b = lb ∨ ∃ off, 0 < len ∧ a = some ⟨b, off, none⟩) (tri len) w := by
  intro l J Jx W hW hJ hJx h0 hY
  have HLW : Hid (RegsAt W a len L) := hL.below hW
  have HS : Hid (W.heap[lb]? = some (.cells #[.slice a len cap] 29 (0, 0))) := kept hS hW
  obtain ⟨Kb, hKb⟩ : ∃ Kb : Nat → Prop, Kb = (fun b => b = lb ∨ ∃ off, 0 < len ∧ a = some ⟨b, off, none⟩) := ⟨_, rfl⟩
  rw [← hKb] at h0 hY
  have HK1 : Hid (Kb lb) := by rw [hKb]; exact .inl rfl
  have HK2 : Hid (∀ b, (∃ off, 0 < len ∧ a = some ⟨b, off, none⟩) → Kb b) := fun b h => by rw [hKb]; exact .inr h
  have P0 : Hid (PS Kb lb a len cap L W Kb W) := by
    refine ⟨?_, fun b h => h, Nat.le_refl _, HS.out, HLW.out⟩
    intro b hb
    refine ⟨?_, .inl hb⟩
    rw [hKb] at hb
    rcases hb with rfl | ⟨off, h1, h2⟩
    · exact heap_lt HS.out
    · obtain ⟨b', off', e, hb', _⟩ := HLW.out.1.at h1
      rw [h2] at e; cases e; exact hb'
  have H0 := Lib.hid h0
  have HJ := Lib.hid hJ
  have HY := Lib.hid hY
  have l0 := cell_row (j := 0) HS.out rfl
  clear hL hS hW h0 hKb HS HLW hJ hY hJx
  refine callsIn_of_wp Try.func33 rfl trivial ?_ rfl
  simp only [Try.ntmps33, List.size_toArray, List.length_cons, List.length_nil, Nat.reduceAdd, Nat.reduceSub, Array.replicate_succ, Array.replicate_zero, List.push_toArray, List.append_toArray, List.nil_append, List.cons_append]
  gi_wp2_with (fail)
  gi_loopw [9] (fun i wr => ∃ k : Nat, k ≤ len ∧ i = .int .i64 k ∧ ∃ Fb, J (tri k) Fb wr ∧ PS Kb lb a len cap L W Fb wr) (fun i _ => len - (intOf i).toNat)
  case atStart => exact ⟨0, Nat.zero_le _, rfl, _, H0.out, P0.out⟩
  case round =>
    obtain ⟨k, hk, rfl, Fb, hj, hp⟩ := hrel
    obtain ⟨w4, rfl⟩ : ∃ w4 : World, w4 = wr := ⟨_, rfl⟩
    have J4 := Lib.hid hj; have P4 := Lib.hid hp
    clear hj hp H0 P0
    by_cases hlt : k < len
    · obtain ⟨sb, soff, rfl, hsl, hcells⟩ := P4.out.rg.1.at (by omega)
      have x0 : w4.cell? ⟨sb, soff + k * 3, none⟩ = some (.int .u32 ((L k).base : Int)) := hcells k hlt 0 (by omega)
      have x1 : w4.cell? ⟨sb, soff + k * 3 + 1, none⟩ = some (.int .u32 ((L k).size : Int)) := hcells k hlt 1 (by omega)
      have x2 : w4.cell? ⟨sb, soff + k * 3 + 2, none⟩ = some (.int .u8 ((L k).rt : Int)) := hcells k hlt 2 (by omega)
      clear hcells
      obtain ⟨r, hr⟩ : ∃ r, r = L k := ⟨_, rfl⟩
      rw [← hr] at x0 x1 x2
      have HR := Lib.hid hr
      clear hr
      obtain ⟨w5, hw5⟩ : ∃ x, x = w4.alloc (.cells #[.int .u32 (r.base : Int), .int .u32 (r.size : Int), .int .u8 (r.rt : Int)] 24) := ⟨_, rfl⟩
      have B5 : Hid (Below w4.heap.size w4 w5) := by rw [hw5]; exact alloc_below _ _
      have K5 : Hid (w5.heap[w4.heap.size]? = some (.cells #[.int .u32 (r.base : Int), .int .u32 (r.size : Int), .int .u8 (r.rt : Int)] 24 (0, 0))) := by rw [hw5]; exact heap_alloc_new _ _
      have HW5 := Lib.hid hw5
      have P5 := Lib.hid (P4.out.below B5.out)
      have J5 := Lib.hid (HJ.out _ Fb w4 w5 J4.out B5.out)
      have G5 : Hid (extF Fb w4 w5 w4.heap.size) := .inr ⟨Nat.le_refl _, heap_lt K5.out⟩
      clear hw5
      generalize extF Fb w4 w5 = Fb5 at *
      gi_upto_region 3 with (fail)
      rw [← HW5.out]
      generalize hg5 : w4.heap.size = g5 at *
      clear x0 x1 x2
      have m0 := cell_row (j := 0) P5.out.bx rfl
      have mlt := heap_lt P5.out.bx
      gi_wp2_with (fail)
      gi_loopw [18] (fun i wr => ∃ q : Nat, q ≤ k ∧ i = .int .i64 q ∧ ∃ Fb, J (tri k + q) Fb wr ∧ PS Kb lb (some ⟨sb, soff, none⟩) len cap L W Fb wr ∧ Fb g5 ∧ wr.heap[g5]? = some (.cells #[.int .u32 (r.base : Int), .int .u32 (r.size : Int), .int .u8 (r.rt : Int)] 24 (0, 0))) (fun i _ => k - (intOf i).toNat)
      case atStart => exact ⟨0, Nat.zero_le _, rfl, _, J5.out, P5.out, G5.out, K5.out⟩
      case round =>
        obtain ⟨q, hq, rfl, Fq, hj, hp, hg, hkk⟩ := hrel
        obtain ⟨w6, rfl⟩ : ∃ w6 : World, w6 = wr := ⟨_, rfl⟩
        have J6 := Lib.hid hj; have P6 := Lib.hid hp; have G6 := Lib.hid hg; have K6 := Lib.hid hkk
        clear hj hp hg hkk m0 mlt J5 P5 G5 K5 B5 HW5 P4 J4
        by_cases hlq : q < k
        · obtain ⟨sb', soff', e, hsl', hcells⟩ := P6.out.rg.1.at (by omega)
          cases e
          have x0 : w6.cell? ⟨sb, soff + q * 3, none⟩ = some (.int .u32 ((L q).base : Int)) := hcells q (by omega) 0 (by omega)
          have x1 : w6.cell? ⟨sb, soff + q * 3 + 1, none⟩ = some (.int .u32 ((L q).size : Int)) := hcells q (by omega) 1 (by omega)
          have x2 : w6.cell? ⟨sb, soff + q * 3 + 2, none⟩ = some (.int .u8 ((L q).rt : Int)) := hcells q (by omega) 2 (by omega)
          clear hcells hsl'
          have HN := Lib.hid (encP_at (L := L) hlq hlt)
          have HLT := Lib.hid (prs_lt hlq hlt)
          obtain ⟨s, hs⟩ : ∃ s, s = L q := ⟨_, rfl⟩
          rw [← hs] at x0 x1 x2
          rw [← hs, ← HR.out] at HN
          clear hs
          obtain ⟨w7, hw7⟩ : ∃ x, x = w6.alloc (.cells #[.int .u32 (s.base : Int), .int .u32 (s.size : Int), .int .u8 (s.rt : Int)] 24) := ⟨_, rfl⟩
          have B7 : Hid (Below w6.heap.size w6 w7) := by rw [hw7]; exact alloc_below _ _
          have K7 : Hid (w7.heap[w6.heap.size]? = some (.cells #[.int .u32 (s.base : Int), .int .u32 (s.size : Int), .int .u8 (s.rt : Int)] 24 (0, 0))) := by rw [hw7]; exact heap_alloc_new _ _
          have HW7 := Lib.hid hw7
          have P7 := Lib.hid (P6.out.below B7.out)
          have J7 := Lib.hid (HJ.out _ Fq w6 w7 J6.out B7.out)
          have G7 : Hid (extF Fq w6 w7 g5) := .inl G6.out
          have K8 := Lib.hid (kept K6.out B7.out)
          clear hw7
          generalize extF Fq w6 w7 = F7 at *
          gi_upto_region 6 with (fail)
          rw [← HW7.out]
          generalize hg7 : w6.heap.size = g7 at *
          clear x0 x1 x2
          have z0 := cell_row (j := 0) K8.out rfl
          have z1 := cell_row (j := 1) K8.out rfl
          have z2 := cell_row (j := 2) K8.out rfl
          have z3 := cell_row (j := 0) K7.out rfl
          have z4 := cell_row (j := 1) K7.out rfl
          have z5 := cell_row (j := 2) K7.out rfl
          have z6 := heap_lt K8.out; have z7 := heap_lt K7.out
          obtain ⟨fn, tmps, assign, body, hy, hR⟩ := HY.out _ F7 w7 HLT.out P7.out.ok J7.out
          rw [HN.out] at hy
          unfold Reg.val at hy
          gi_wp2_with (fail)
          refine ⟨fun h => (by cases h), hR.mono ?_⟩
          clear hy hR
          rintro e w8 (⟨rfl, q1, q2, q3⟩ | ⟨rfl, q1⟩)
          · have J8 := Lib.hid q1
            have P8 := Lib.hid (P7.out.keep q2 q3 HK1.out HK2.out)
            have K9 := Lib.hid (q2 _ _ G7.out K8.out)
            clear q1 q2 q3 z0 z1 z2 z3 z4 z5 z6 z7
            gi_wp2_with (fail)
            go_roundw
            case rel => exact ⟨q + 1, by omega, by go_num, _, J8.out, P8.out, G7.out, K9.out⟩
            case measure => simp [intOf]; omega
          · have JX := Lib.hid q1
            clear q1
            gi_wp2_with (fail)
            refine bodyPost_ret (results_none rfl _ _ _) rfl ?_
            exact ⟨⟨_, rfl⟩, .inr ⟨_, _, Nat.succ_pos _, HLT.out, JX.out⟩⟩
        · obtain rfl : q = k := by omega
          gi_wp2_with (fail)
          go_roundw
          case rel => exact ⟨q + 1, by omega, by go_num, _, J6.out, P6.out⟩
          case measure => simp [intOf]; omega
    · obtain rfl : k = len := by omega
      gi_wp2_with (fail)
      go_end0
      exact ⟨⟨_, rfl⟩, .inl ⟨_, J4.out⟩⟩
end Go.Proofs.Yteekneicahfkpaa
