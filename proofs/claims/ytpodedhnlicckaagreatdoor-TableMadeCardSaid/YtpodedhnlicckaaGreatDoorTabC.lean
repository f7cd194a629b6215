/- Which routes must be declared to conflict (table.Conflicts). -/
import Derived.Test.YtpodedhnlicckaaGreatDoorTabR
import Derived.Deep.OwnRows
namespace Go.Proofs.YtpodedhnlicckaaGreatDoor
open Go.RowKit
set_option linter.unusedVariables false
set_option linter.unusedSimpArgs false
def confL (T : Tab) (i : Nat) : Nat → List Int
  | 0 => []
  | k + 1 => if (i != k) && mustB T.pts (T.rts.getD i rt0) (T.rts.getD k rt0) then confL T i k ++ [(k : Int)] else confL T i k
theorem confL_len (T : Tab) (i k : Nat) : (confL T i k).length ≤ k := by
  induction k with
  | zero => exact Nat.le_refl _
  | succ k ih =>
    unfold confL
    split
    · simp; omega
    · omega
theorem confL_ok (T : Tab) (i k : Nat) (hk : k ≤ 1000000) : ∀ x ∈ confL T i k, 0 ≤ x ∧ x < k := by
  induction k with
  | zero => intro x hx; cases hx
  | succ k ih =>
    intro x hx
    unfold confL at hx
    split at hx
    · rcases List.mem_append.1 hx with h | h
      · have := ih (by omega) x h; omega
      · simp at h; omega
    · have := ih (by omega) x hx; omega
/-- Rows of numbers, by a slice of slices at the head of a block. -/
structure RowsAt (w : World) (ob n : Nat) (V : Nat → Value) (L : Nat → List Int) : Prop where
  row : RowAt w ob 22 n V
  ints : ∀ j, j < n → IntsAt w (V j) (L j)
  off : ∀ j, j < n → ∀ b o k c, V j = .slice (some ⟨b, o, none⟩) k c → b ≠ ob
theorem IntsAt.only {w w' : World} {M : Nat → Prop} {v : Value} {l : List Int} (h : IntsAt w v l) (ho : Only M w w') (hM : ∀ b o k c, v = .slice (some ⟨b, o, none⟩) k c → ¬ M b) : IntsAt w' v l := by
  obtain ⟨⟨a, c, e, h1, h2, h3⟩, h4⟩ := h
  exact ⟨⟨a, c, e, h1, h2, h3.only ho (fun b off ha _ => hM b off _ _ (by rw [e, ha]))⟩, h4⟩
theorem made_at (w : World) (t : TypeId) (z : Value) (n : Nat) : RowAt (w.alloc (.cells (madeCells #[z] n) t)) w.heap.size t n (fun _ => z) :=
  ⟨_, heap_alloc_new _ _, by rw [size_madeCells]; exact Nat.le_refl _, fun i hi => by
    rw [← Array.getElem?_toList, toList_madeCells_one]; simp [hi]⟩
def intsV (l : List Int) : List Value := l.map fun x => .int .i64 x
theorem intsV_snoc (l : List Int) (x : Int) : intsV (l ++ [x]) = intsV l ++ [.int .i64 x] := by simp [intsV]
/-- Owned rows have their own blocks. -/
theorem own_off {w : World} {B e n ob : Nat} {v : Value} {xs : List Value} (h : w.ownsRow B e 1 v n xs) (hB : ob < B) : ∀ b o k c, v = .slice (some ⟨b, o, none⟩) k c → b ≠ ob := by
  intro b o k c e
  rcases h.2 with ⟨rfl, _⟩ | ⟨g, cap, cur, rfl, hg, _⟩
  · cases e
  · cases e; omega
theorem own_blk {w : World} {B e n : Nat} {v : Value} {xs : List Value} (h : w.ownsRow B e 1 v n xs) : ∀ g, v.ownBlock = some g → B ≤ g := fun g hg => (h.lt g hg).1
theorem tb_own {w w' : World} {M : Nat → Prop} {base e sz n : Nat} {v : Value} {xs : List Value} (h : w.ownsRow base e sz v n xs) (ho : Only M w w') (hm : ∀ k, v.ownBlock = some k → ¬ M k) : w'.ownsRow base e sz v n xs := by
  refine ⟨h.1, ?_⟩
  rcases h.2 with h0 | ⟨g, cap, cur, hv, hb, hg, r⟩
  · exact .inl h0
  · exact .inr ⟨g, cap, cur, hv, hb, (ho.block g (heap_lt hg) (hm g (by rw [hv]; rfl))).trans hg, r⟩
theorem own_slice {w : World} {B e n : Nat} {v : Value} {xs : List Value} (h : w.ownsRow B e 1 v (n + 1) xs) : ∃ g cap, v = .slice (some ⟨g, 0, none⟩) (n + 1) cap := by
  rcases h.2 with ⟨_, h0⟩ | ⟨g, cap, cur, rfl, _⟩
  · exact absurd h0 (by omega)
  · exact ⟨g, cap, rfl⟩
theorem Only.fresh {M : Nat → Prop} {a b c : World} (h : Only M a b) (k : Only (fun i => a.heap.size ≤ i) b c) : Only M a c :=
  ⟨k.os.trans h.os, k.tape.trans h.tape, k.output.trans h.output, Nat.le_trans h.size k.size, fun i hi hm => (k.block i (Nat.lt_of_lt_of_le hi h.size) (by omega)).trans (h.block i hi hm)⟩
theorem only_of_grown {a b : World} {r : Option Nat} (h : a.grownBy b r) {M : Nat → Prop} (hr : ∀ g, r = some g → a.heap.size ≤ g ∨ M g) : Only M a b := Only.grown h hr
set_option maxRecDepth 100000 in
set_option maxHeartbeats 4000000 in
theorem conflicts_any (v : Value) (T : Tab) (w : World) (hT : TabAt w v T) (hn : T.rts.length ≤ 1000000) :
    Calls Tryz.prog 11 #[v] w fun e w' => (∃ ob V, e = .returned (.slice (some ⟨ob, 0, none⟩) T.rts.length T.rts.length) ∧ w.heap.size ≤ ob ∧ RowsAt w' ob T.rts.length V (fun i => confL T i T.rts.length)) ∧ Below w.heap.size w w' := by
  have hT0 := hT
  obtain ⟨⟨vp, vr, rfl, hP, hr⟩, _, _⟩ := hT
  obtain ⟨a, c, C0, rfl, hlc, hcm, _⟩ := hr.at_
  have HT := Lib.hid hT0
  clear hT0
  have HR := Lib.hid hr
  obtain ⟨w1, hw1⟩ : ∃ w1, w1 = w.alloc (.cells #[.int .i64 T.tracks, vp, .int .i64 T.sigs, .slice a T.rts.length c] 25) := ⟨_, rfl⟩
  have B1 : Hid (Below w.heap.size w w1) := by rw [hw1]; exact tb_alloc_below _ _
  have K1 : Hid (w1.heap[w.heap.size]? = some (.cells #[.int .i64 T.tracks, vp, .int .i64 T.sigs, .slice a T.rts.length c] 25 (0, 0))) := by rw [hw1]; exact heap_alloc_new _ _
  have Z1 : Hid (w1.heap.size = w.heap.size + 1) := by rw [hw1]; exact Array.size_push _
  obtain ⟨w2, hw2⟩ : ∃ w2, w2 = w1.alloc (.cells (madeCells #[Value.slice none 0 0] T.rts.length) 22) := ⟨_, rfl⟩
  have B2 : Hid (Below w.heap.size w w2) := by rw [hw2]; exact B1.out.alloc B1.out.size _
  have K2 : Hid (w2.heap[w.heap.size]? = some (.cells #[.int .i64 T.tracks, vp, .int .i64 T.sigs, .slice a T.rts.length c] 25 (0, 0))) := by rw [hw2]; exact tb_kept K1.out (tb_alloc_below _ _)
  have R2 : Hid (RowAt w2 w1.heap.size 22 T.rts.length (fun _ => .slice none 0 0)) := by rw [hw2]; exact made_at _ _ _ _
  have HOB : Hid (w.heap.size < w1.heap.size) := by show _ < _; rw [Z1.out]; omega
  have HW1 := Lib.hid hw1; have HW2 := Lib.hid hw2
  have HTZ : Hid (∀ r ∈ T.rts, True) := fun _ _ => trivial
  clear hw1 hw2 HTZ
  obtain ⟨i0, hi, hz0, hz1, hz2⟩ := tb_info infoI
  have HIn := Lib.hid hi; have HZ0 := Lib.hid hz0; have HZ1 := Lib.hid hz1; have HZ2 := Lib.hid hz2
  clear hi hz0 hz1 hz2
  obtain ⟨obk, hobk⟩ : ∃ o, o = w1.heap.size := ⟨_, rfl⟩
  have infoS : (Tryz.prog.info? 22).map (fun i => (i.zero, i.size, i.bytes)) = some (some (.slice none 0 0), 1, 24) := by kernel_rfl
  have hmk := fun w => run_make_row' (P := Tryz.prog) 34 22 (.slice none 0 0) 24 Tryz.underlying34 infoS rfl .i64 .i64 T.rts.length (by omega) (by omega) w
  generalize hlen : T.rts.length = m at *
  have HLEN := Lib.hid hlen
  have HN : Hid (m ≤ 1000000) := hn
  unfold maxLen at hcm
  clear hlen infoS hP hr
  have HOBK := Lib.hid hobk
  go_enter Tryz.func11, Tryz.ntmps11
  go_upto_region 1 with fail
  rw [← HW1.out]
  have c3 := cell_row (j := 3) K1.out rfl
  have l1 := heap_lt K1.out
  go_upto_region 2 with fail
  rw [← HW2.out, ← hobk]
  rw [← hobk] at R2 HOB
  clear c3 l1 hmk hobk
  have c3 := cell_row (j := 3) K2.out rfl
  have l1 := heap_lt K2.out
  go_wp2_with fail
  go_loopw [15] (fun i wr => ∃ (i' : Nat) (V : Nat → Value), i' ≤ m ∧ i = .int .i64 i' ∧ Below w.heap.size w wr ∧ wr.heap[w.heap.size]? = some (.cells #[.int .i64 T.tracks, vp, .int .i64 T.sigs, .slice a m c] 25 (0, 0)) ∧ RowAt wr obk 22 m V ∧ (∀ j, j < i' → IntsAt wr (V j) (confL T j m) ∧ ∀ b o k c, V j = .slice (some ⟨b, o, none⟩) k c → b ≠ obk) ∧ (∀ j, i' ≤ j → V j = .slice none 0 0)) (fun i _ => m - (intOf i).toNat)
  case atStart => exact ⟨0, _, Nat.zero_le _, rfl, B2.out, K2.out, R2.out, fun j hj => absurd hj (by omega), fun j _ => rfl⟩
  case round =>
    obtain ⟨i, V, hi, rfl, hb, hk, hrow, hin, hnil⟩ := hrel
    have B3 := Lib.hid hb; have K3 := Lib.hid hk; have R3 := Lib.hid hrow; have IN3 := Lib.hid hin; have NIL := Lib.hid hnil
    clear hb hk hrow hin hnil c3 l1
    obtain ⟨w3, rfl⟩ : ∃ w3 : World, w3 = wr := ⟨_, rfl⟩
    have c3 := cell_row (j := 3) K3.out rfl
    have l1 := heap_lt K3.out
    by_cases hlt : i < m
    · obtain ⟨rb, roff, C, rfl, hrb, hrc, hrr⟩ := HR.out.cells (i := i) (by rw [HLEN.out]; omega)
      have x0 := (B3.out.cell hrb).trans (hrc 0 (by omega)); have x1 := (B3.out.cell hrb).trans (hrc 1 (by omega)); have x2 := (B3.out.cell hrb).trans (hrc 2 (by omega)); have x3 := (B3.out.cell hrb).trans (hrc 3 (by omega)); have x4 := (B3.out.cell hrb).trans (hrc 4 (by omega)); have x5 := (B3.out.cell hrb).trans (hrc 5 (by omega))
      rw [Nat.add_zero] at x0
      have hV := hrr.rval
      obtain ⟨A, hA⟩ : ∃ A, A = T.rts.getD i rt0 := ⟨_, rfl⟩
      rw [← hA] at hrr hV
      obtain ⟨⟨ta, tc, ht, _⟩, _⟩ := hrr.tr
      obtain ⟨⟨pa, pc, hp, _⟩, _⟩ := hrr.pts
      obtain ⟨⟨ca, cc, hcn, _⟩, _⟩ := hrr.con
      rw [hrr.sig] at x0 hV; rw [ht] at x1 hV; rw [hp] at x2 hV; rw [hrr.app] at x3 hV; rw [hcn] at x4 hV; rw [hrr.hold] at x5 hV
      obtain ⟨w4, hw4⟩ : ∃ w4, w4 = w3.alloc (.cells #[.int .i64 A.sig, .slice ta A.tr.length tc, .slice pa A.pts.length pc, .int .i64 A.app, .slice ca A.con.length cc, .int .u16 (A.hold : Int)] 30) := ⟨_, rfl⟩
      have B34 : Hid (Below w3.heap.size w3 w4) := by rw [hw4]; exact tb_alloc_below _ _
      have B4 : Hid (Below w.heap.size w w4) := B3.out.trans (B34.out.mono B3.out.size)
      have AB4 : Hid (w4.heap[w3.heap.size]? = some (.cells #[.int .i64 A.sig, .slice ta A.tr.length tc, .slice pa A.pts.length pc, .int .i64 A.app, .slice ca A.con.length cc, .int .u16 (A.hold : Int)] 30 (0, 0))) := by rw [hw4]; exact heap_alloc_new _ _
      have K4 : Hid (w4.heap[w.heap.size]? = some (.cells #[.int .i64 T.tracks, vp, .int .i64 T.sigs, .slice (some ⟨rb, roff, none⟩) m c] 25 (0, 0))) := tb_kept K3.out B34.out
      have R4 : Hid (RowAt w4 obk 22 m V) := by
        refine R3.out.same ?_
        exact B34.out.block _ R3.out.lt
      have IN4 : Hid (∀ j, j < i → IntsAt w4 (V j) (confL T j m) ∧ ∀ b o k c, V j = .slice (some ⟨b, o, none⟩) k c → b ≠ obk) := fun j hj => ⟨(IN3.out j hj).1.below B34.out, (IN3.out j hj).2⟩
      have HVA := Lib.hid hV
      have AB0 : Hid (w3.heap.size < w4.heap.size) := heap_lt AB4.out
      have ABO : Hid (obk < w3.heap.size) := R3.out.lt
      have HW4 := Lib.hid hw4; have HA := Lib.hid hA
      clear hw4 hA hrr hrc hV ht hp hcn hrb
      go_upto_region 5 with fail
      rw [← HW4.out]
      clear x0 x1 x2 x3 x4 x5 c3 l1 R3 IN3 K3
      have c3 := cell_row (j := 3) K4.out rfl
      have l1 := heap_lt K4.out
      obtain ⟨ab, hab⟩ : ∃ ab, ab = w3.heap.size := ⟨_, rfl⟩
      rw [← hab] at AB4 AB0 ABO ⊢
      have HAB := Lib.hid hab
      clear hab B34
      go_wp2_with fail
      go_loopw [23] (fun i23 wr => ∃ (k : Nat) (v : Value), k ≤ m ∧ i23 = .int .i64 k ∧ RowAt wr obk 22 m (fun j => if j = i then v else V j) ∧ wr.ownsRow w4.heap.size 3 1 v (confL T i k).length (intsV (confL T i k)) ∧ Only (fun b => b = obk) w4 wr) (fun i23 _ => m - (intOf i23).toNat)
      case atStart => exact ⟨0, .slice none 0 0, Nat.zero_le _, rfl, R4.out.congr (fun j _ => by
        show _ = if j = i then _ else _
        by_cases e : j = i
        · rw [if_pos e, NIL.out j (by omega)]
        · rw [if_neg e]), ⟨rfl, .inl ⟨rfl, rfl⟩⟩, Only.refl _ _⟩
      case round =>
        obtain ⟨k, v, hk, rfl, hrow, hown, honly⟩ := hrel
        have R5 := Lib.hid hrow; have O5 := Lib.hid hown; have L5 := Lib.hid honly
        clear hrow hown honly c3 l1
        obtain ⟨w5, rfl⟩ : ∃ w5 : World, w5 = wr := ⟨_, rfl⟩
        have B5 : Hid (Below w.heap.size w w5) := B4.out.trans (L5.out.below B4.out.size (fun b hb hm => by have := HOB.out; omega))
        have K5 : Hid (w5.heap[w.heap.size]? = some (.cells #[.int .i64 T.tracks, vp, .int .i64 T.sigs, .slice (some ⟨rb, roff, none⟩) m c] 25 (0, 0))) := (L5.out.block _ (heap_lt K4.out) (by have := HOB.out; omega)).trans K4.out
        have AB5 : Hid (w5.heap[ab]? = some (.cells #[.int .i64 A.sig, .slice ta A.tr.length tc, .slice pa A.pts.length pc, .int .i64 A.app, .slice ca A.con.length cc, .int .u16 (A.hold : Int)] 30 (0, 0))) := (L5.out.block _ AB0.out (by have := ABO.out; omega)).trans AB4.out
        have c3 := cell_row (j := 3) K5.out rfl
        have l1 := heap_lt K5.out
        by_cases hltk : k < m
        · obtain ⟨rb', roff', C', e, hrb, hrc, hrr⟩ := HR.out.cells (i := k) (by rw [HLEN.out]; omega)
          cases e
          have x0 := (B5.out.cell hrb).trans (hrc 0 (by omega)); have x1 := (B5.out.cell hrb).trans (hrc 1 (by omega)); have x2 := (B5.out.cell hrb).trans (hrc 2 (by omega)); have x3 := (B5.out.cell hrb).trans (hrc 3 (by omega)); have x4 := (B5.out.cell hrb).trans (hrc 4 (by omega)); have x5 := (B5.out.cell hrb).trans (hrc 5 (by omega))
          rw [Nat.add_zero] at x0
          have hV := hrr.rval
          obtain ⟨D, hD⟩ : ∃ D, D = T.rts.getD k rt0 := ⟨_, rfl⟩
          rw [← hD] at hrr hV
          obtain ⟨⟨ua, uc, ht, _⟩, _⟩ := hrr.tr
          obtain ⟨⟨qa, qc, hp, _⟩, _⟩ := hrr.pts
          obtain ⟨⟨da, dc, hcn, _⟩, _⟩ := hrr.con
          rw [hrr.sig] at x0 hV; rw [ht] at x1 hV; rw [hp] at x2 hV; rw [hrr.app] at x3 hV; rw [hcn] at x4 hV; rw [hrr.hold] at x5 hV
          obtain ⟨w6, hw6⟩ : ∃ w6, w6 = w5.alloc (.cells #[.int .i64 D.sig, .slice ua D.tr.length uc, .slice qa D.pts.length qc, .int .i64 D.app, .slice da D.con.length dc, .int .u16 (D.hold : Int)] 30) := ⟨_, rfl⟩
          have B56 : Hid (Below w5.heap.size w5 w6) := by rw [hw6]; exact tb_alloc_below _ _
          have B6 : Hid (Below w.heap.size w w6) := B5.out.trans (B56.out.mono B5.out.size)
          have BB6 : Hid (w6.heap[w5.heap.size]? = some (.cells #[.int .i64 D.sig, .slice ua D.tr.length uc, .slice qa D.pts.length qc, .int .i64 D.app, .slice da D.con.length dc, .int .u16 (D.hold : Int)] 30 (0, 0))) := by rw [hw6]; exact heap_alloc_new _ _
          have HVD := Lib.hid (hV.below B6.out)
          have HW6 := Lib.hid hw6
          have HCS : Hid (confL T i (k + 1) = if (i != k) && mustB T.pts A D then confL T i k ++ [(k : Int)] else confL T i k) := by rw [HA.out, hD]; rfl
          have HCL : Hid ((confL T i k).length ≤ k) := confL_len T i k
          clear hw6 hD hrr hrc hV ht hp hcn hrb
          go_upto_region 8 with fail
          rw [← HW6.out]
          clear x0 x1 x2 x3 x4 x5 c3 l1
          have K6 := tb_kept K5.out B56.out
          have AB6 := tb_kept AB5.out B56.out
          obtain ⟨bb, hbb⟩ : ∃ bb, bb = w5.heap.size := ⟨_, rfl⟩
          have BB6' := BB6.out
          rw [← hbb] at BB6' ⊢
          clear BB6
          have L6 : Hid (Only (fun b => b = obk) w4 w6) := L5.out.trans (Only.of_below _ B56.out)
          have R6 : Hid (RowAt w6 obk 22 m (fun j => if j = i then v else V j)) := R5.out.same (B56.out.block _ R5.out.lt)
          have O6 : Hid (w6.ownsRow w4.heap.size 3 1 v (confL T i k).length (intsV (confL T i k))) := tb_own O5.out (Only.of_below (fun _ => False) B56.out) (fun _ _ h => h)
          clear hbb
          by_cases hik : i = k
          · have t1 : ((i : Int) != (k : Int)) = false := by simp [hik]
            have t2 : (i != k) = false := by simp [hik]
            have HCK : Hid (confL T i (k + 1) = confL T i k) := by show _ = _; rw [HCS.out, t2]; rfl
            clear hik K6 AB6 BB6'
            go_wp2_with fail
            go_roundw
            case rel => exact ⟨k + 1, v, by omega, by go_num, R6.out, by rw [HCK.out]; exact O6.out, L6.out⟩
            case measure => simp [intOf]; omega
          · have t1 : ((i : Int) != (k : Int)) = true := by simp; omega
            have t2 : (i != k) = true := by simpa using hik
            have HMC := Lib.hid (must_any _ _ _ T A D w6 (HT.out.below B6.out) (HVA.out.below B6.out) HVD.out)
            rw [t2, Bool.true_and] at HCS
            have k0 := cell_row (j := 0) K6 rfl; have k1 := cell_row (j := 1) K6 rfl; have k2 := cell_row (j := 2) K6 rfl; have k3 := cell_row (j := 3) K6 rfl
            have a0 := cell_row (j := 0) AB6 rfl; have a1 := cell_row (j := 1) AB6 rfl; have a2 := cell_row (j := 2) AB6 rfl; have a3 := cell_row (j := 3) AB6 rfl; have a4 := cell_row (j := 4) AB6 rfl; have a5 := cell_row (j := 5) AB6 rfl
            have b0 := cell_row (j := 0) BB6' rfl; have b1 := cell_row (j := 1) BB6' rfl; have b2 := cell_row (j := 2) BB6' rfl; have b3 := cell_row (j := 3) BB6' rfl; have b4 := cell_row (j := 4) BB6' rfl; have b5 := cell_row (j := 5) BB6' rfl
            have l0 := heap_lt K6; have l1 := heap_lt AB6; have l2 := heap_lt BB6'
            clear hik K6 AB6 BB6'
            cases hmu : mustB T.pts A D
            case false =>
              have HCK : Hid (confL T i (k + 1) = confL T i k) := by show _ = _; rw [HCS.out, hmu]; rfl
              rw [hmu] at HMC
              clear hmu
              go_wp2_with fail
              (with_reducible refine HMC.out.mono ?_)
              rintro e w7 ⟨rfl, hb7⟩
              have R7 : Hid (RowAt w7 obk 22 m (fun j => if j = i then v else V j)) := R6.out.same (hb7.block _ R6.out.lt)
              have O7 : Hid (w7.ownsRow w4.heap.size 3 1 v (confL T i k).length (intsV (confL T i k))) := tb_own O6.out (Only.of_below (fun _ => False) hb7) (fun _ _ h => h)
              have L7 : Hid (Only (fun b => b = obk) w4 w7) := L6.out.trans (Only.of_below _ hb7)
              clear hb7 k0 k1 k2 k3 a0 a1 a2 a3 a4 a5 b0 b1 b2 b3 b4 b5 l0 l1 l2
              go_wp2_with fail
              go_roundw
              case rel => exact ⟨k + 1, v, by omega, by go_num, R7.out, by rw [HCK.out]; exact O7.out, L7.out⟩
              case measure => simp [intOf]; omega
            case true =>
              have HCK : Hid (confL T i (k + 1) = confL T i k ++ [(k : Int)]) := by show _ = _; rw [HCS.out, hmu]; rfl
              rw [hmu] at HMC
              clear hmu
              go_wp2_with fail
              (with_reducible refine HMC.out.mono ?_)
              rintro e w7 ⟨rfl, hb7⟩
              have R7 : Hid (RowAt w7 obk 22 m (fun j => if j = i then v else V j)) := R6.out.same (hb7.block _ R6.out.lt)
              have O7 : Hid (w7.ownsRow w4.heap.size 3 1 v (confL T i k).length (intsV (confL T i k))) := tb_own O6.out (Only.of_below (fun _ => False) hb7) (fun _ _ h => h)
              have L7 : Hid (Only (fun b => b = obk) w4 w7) := L6.out.trans (Only.of_below _ hb7)
              clear hb7 k0 k1 k2 k3 a0 a1 a2 a3 a4 a5 b0 b1 b2 b3 b4 b5 l0 l1 l2
              have HRi : Hid (w7.cell? ⟨obk, i, none⟩ = some v) := by
                have := R7.out.cell (i := i) hlt
                rw [if_pos rfl] at this; exact this
              have ci := HRi.out
              have li := R7.out.lt
              have FRi : w7.frozen? ⟨obk, i, none⟩ = false := R7.out.frozen i
              have HO := Lib.hid (O7.out.alloc (.cells #[.int .i64 (k : Int)] 3))
              have HZ : Hid (w4.heap.size ≤ w7.heap.size) := L7.out.size
              have HLT : Hid ((confL T i k).length ≤ 1000000) := by have := HCL.out; have := HN.out; show _ ≤ _; omega
              have HOB4 : Hid (obk < w4.heap.size) := by have := AB0.out; have := ABO.out; show _ < _; omega
              generalize hcl : confL T i k = cl at *
              go_wp2_with (at_builtin; refine wpList_append_own_at _ rfl _ _ 22 rfl w4.heap.size 3 i0 (.int .i64 0) 1 8 Tryz.underlying22 HIn.out HZ0.out HZ1.out HZ2.out rfl (by decide) v cl.length _ rfl HO.out ⟨w7.heap.size, 0, none⟩ 1 1 [.int .i64 (k : Int)] rfl rfl (cell_one_new _ _ _) (fun u hu => by simp at hu; subst hu; rfl) (by have := HLT.out; unfold maxLen; omega) (by have := HLT.out; omega) (by have := HZ.out; simp; omega) ?_)
              intro v8 w8 ho8 hg8 _ _
              obtain ⟨g8, cap8, rfl⟩ := own_slice ho8
              have L78 : Only (fun b => w4.heap.size ≤ b) w7 w8 := ((Only.refl _ w7).alloc _).trans (Only.grown hg8 (fun g hg => .inr (own_blk O7.out g hg)))
              have R8 : Hid (RowAt w8 obk 22 m (fun j => if j = i then v else V j)) := R7.out.same (L78.block _ R7.out.lt (by have := HOB4.out; omega))
              have L8 : Hid (Only (fun b => b = obk) w4 w8) := L7.out.fresh L78
              rw [← intsV_snoc, ← HCK.out, show cl.length + 1 = (confL T i (k + 1)).length by rw [HCK.out]; simp] at ho8
              have O8 := Lib.hid ho8
              have HC8 : Hid ((confL T i (k + 1)).length = cl.length + 1) := by show _ = _; rw [HCK.out]; simp
              rw [HC8.out] at O8
              have c8 : w8.cell? ⟨obk, i, none⟩ = some v := by have := R8.out.cell (i := i) hlt; rw [if_pos rfl] at this; exact this
              have f8 : w8.frozen? ⟨obk, i, none⟩ = false := R8.out.frozen i
              have l8 := R8.out.lt
              clear L78 ci FRi li ho8 hg8 HO
              go_wp2_with fail
              have R9 : Hid (RowAt (w8.setCell ⟨obk, i, none⟩ (.slice (some ⟨g8, 0, none⟩) (cl.length + 1) cap8)) obk 22 m (fun j => if j = i then .slice (some ⟨g8, 0, none⟩) (cl.length + 1) cap8 else V j)) :=
                (R8.out.set (i := i) _).congr (fun j hj => by
                  show (if j = i then _ else if j = i then v else V j) = if j = i then _ else V j
                  by_cases e : j = i
                  · rw [if_pos e, if_pos e]
                  · rw [if_neg e, if_neg e, if_neg e])
              have L89 : Only (fun b => b = obk) w8 (w8.setCell ⟨obk, i, none⟩ (.slice (some ⟨g8, 0, none⟩) (cl.length + 1) cap8)) := (Only.refl _ w8).set _ _ (.inr rfl)
              have O9 : Hid ((w8.setCell ⟨obk, i, none⟩ (.slice (some ⟨g8, 0, none⟩) (cl.length + 1) cap8)).ownsRow w4.heap.size 3 1 (.slice (some ⟨g8, 0, none⟩) (cl.length + 1) cap8) (cl.length + 1) (intsV (confL T i (k + 1)))) :=
                tb_own O8.out L89 (fun g hg hm => by have := own_blk O8.out g hg; have := HOB4.out; omega)
              have L9 := Lib.hid (L8.out.trans L89)
              clear L89
              go_roundw
              case rel => exact ⟨k + 1, _, by omega, by go_num, R9.out, by rw [HC8.out]; exact O9.out, L9.out⟩
              case measure => simp [intOf]; omega
        · obtain rfl : k = m := by omega
          have HI5 : Hid (IntsAt w5 v (confL T i k)) := own_ints O5.out (fun x hx => by
            have := confL_ok T i k HN.out ((confL T i k).getD x 0) (by rw [List.getD_eq_getElem?_getD, List.getElem?_eq_getElem hx]; exact List.getElem_mem hx)
            have := HN.out
            unfold i64ok; omega)
          go_wp2_with fail
          go_roundw
          case rel => exact ⟨i + 1, fun j => if j = i then v else V j, by omega, by go_num, B5.out, K5.out, R5.out, fun j hj => (by
            show IntsAt w5 (if j = i then v else V j) _ ∧ ∀ b o k c, (if j = i then v else V j) = _ → _
            by_cases e : j = i
            · subst e
              rw [if_pos rfl]
              exact ⟨HI5.out, own_off O5.out (by have := AB0.out; have := ABO.out; omega)⟩
            · rw [if_neg e]
              have := IN4.out j (by omega)
              exact ⟨this.1.only L5.out (fun b o k c hv hM => this.2 b o k c hv hM), this.2⟩), fun j hj => (by
            show (if j = i then v else V j) = _
            rw [if_neg (by omega)]
            exact NIL.out j (by omega))⟩
          case measure => simp [intOf]; omega
    · obtain rfl : i = m := by omega
      go_wp2_with fail
      go_ret
      exact ⟨⟨obk, V, rfl, Nat.le_of_lt HOB.out, ⟨R3.out, fun j hj => (IN3.out j hj).1, fun j hj => (IN3.out j hj).2⟩⟩, B3.out⟩
end Go.Proofs.YtpodedhnlicckaaGreatDoor
