/- Frame. -/
import Derived.Test.YtnjeiigdfdjccaaYrdH
import Derived.Deep.RegionHeld3
namespace Go.Proofs.Ytnjeiigdfdjccaa
open Go.RowKit
set_option linter.unusedVariables false
set_option linter.unusedSimpArgs false
theorem yframe_nil (v : Value) (w : World) : Calls Try.prog 14 #[.pointer none, v] w fun e w' => e = .returned (.tuple #[od0.val, .slice none 0 0]) ∧ Below w.heap.size w w' := by
  go_enter Try.func14, Try.ntmps14
  go_wp2_with fail
  exact bodyPost_ret (v := .tuple #[.agg #[.int .u32 0, .int .u32 0, .int .u32 0, .int .u32 0], .slice none 0 0]) (by simp [results, Try.results14, go_sem]) rfl ⟨rfl, by
    repeat (first | exact tb_alloc_below _ _ | (refine Below.setCell ?_ (by show _ ≤ _; exact Nat.le_refl _) _))⟩
def intE (l : List Nat) : List Int := l.map Int.ofNat
theorem intE_snoc (l : List Nat) (x : Nat) : intE (l ++ [x]) = intE l ++ [(x : Int)] := List.map_append
theorem YdAt.offs {w w' : World} {y : Yd} {Y : YS} {M : Nat → Prop} (h : YdAt w y Y) (hM : ∀ b, M b → ¬ y.M b ∧ b ≠ y.u.g ∧ y.u.w0.heap.size ≤ b) (ho : Only M w w') : YdAt w' y Y := by
  have a := h.ap
  have n1 : ¬ M y.g := fun e => (hM _ e).1 (.inl rfl)
  have n2 : ¬ M y.tb := fun e => (hM _ e).1 (.inr (.inl rfl))
  have n3 : ¬ M y.pb := fun e => (hM _ e).1 (.inr (.inr (.inl rfl)))
  have n4 : ¬ M y.u.rb := fun e => (hM _ e).1 (.inr (.inr (.inr (.inl rfl))))
  have n5 : ¬ M y.u.pb := fun e => (hM _ e).1 (.inr (.inr (.inr (.inr rfl))))
  exact ⟨(ho.block _ (heap_lt h.obj) n1).trans h.obj, h.tp, h.tr, h.bel.trans (ho.below h.bel.size (fun i hi hm => by have := a.z; have := (hM i hm).2.2; omega)), h.ts.same (ho.block _ h.ts.lt n2), h.ps.same (ho.block _ h.ps.lt n3),
    h.au.only ho (fun b hb => (hM b hb).2.2) (fun e => (hM _ e).2.1 rfl) n4 (fun _ => n5), a⟩
theorem TurnF.fresh {y : Yd} {fb C : Nat} {w w1 w2 : World} {Y : YS} {f : FD} (h : TurnF y fb w Y f w1) (hC : ∀ b, C ≤ b → ¬ y.M b ∧ b ≠ y.u.g ∧ y.u.w0.heap.size ≤ b) (hw : w.heap.size ≤ C) (hf : fb < C) (ho : Only (fun b => C ≤ b) w1 w2) : TurnF y fb w Y f w2 :=
  ⟨h.at_.offs hC ho, (ho.block _ (heap_lt h.fd) (by omega)).trans h.fd, ⟨ho.os.trans h.o.os, ho.tape.trans h.o.tape, ho.output.trans h.o.output, Nat.le_trans h.o.size ho.size, fun i hi hm => (ho.block i (Nat.lt_of_lt_of_le hi h.o.size) (by omega)).trans (h.o.block i hi hm)⟩⟩
theorem TurnF.trans {y : Yd} {fb : Nat} {w w1 w2 : World} {Y Y' : YS} {f f' : FD} (h : TurnF y fb w Y f w1) (k : TurnF y fb w1 Y' f' w2) : TurnF y fb w Y' f' w2 := ⟨k.at_, k.fd, h.o.trans k.o⟩
theorem TurnF.set_L {y : Yd} {fb : Nat} {w w1 : World} {Y : YS} {f : FD} (h : TurnF y fb w Y f w1) (hO : OffY y fb) (L : OD) :
    TurnF y fb w { Y with L := L } f ((((w1.setCell ⟨y.g, 6, none⟩ (.int .u32 (L.pr : Int))).setCell ⟨y.g, 7, none⟩ (.int .u32 (L.no : Int))).setCell ⟨y.g, 8, none⟩ (.int .u32 (L.re : Int))).setCell ⟨y.g, 9, none⟩ (.int .u32 (L.lo : Int))) := by
  have h6 := heap_setCell_same w1 y.g 6 _ _ (.int .u32 (L.pr : Int)) h.at_.obj
  have h7 := heap_setCell_same _ y.g 7 _ _ (.int .u32 (L.no : Int)) h6
  have h8 := heap_setCell_same _ y.g 8 _ _ (.int .u32 (L.re : Int)) h7
  have h9 := heap_setCell_same _ y.g 9 _ _ (.int .u32 (L.lo : Int)) h8
  have ho : Only (fun b => b = y.g) w1 ((((w1.setCell ⟨y.g, 6, none⟩ (.int .u32 (L.pr : Int))).setCell ⟨y.g, 7, none⟩ (.int .u32 (L.no : Int))).setCell ⟨y.g, 8, none⟩ (.int .u32 (L.re : Int))).setCell ⟨y.g, 9, none⟩ (.int .u32 (L.lo : Int))) :=
    ((((Only.refl (fun b => b = y.g) w1).set _ _ (.inr rfl)).set _ _ (.inr rfl)).set _ _ (.inr rfl)).set _ _ (.inr rfl)
  exact h.of_turn hO ⟨h.at_.turnL ho h9, ho.mono fun i _ e => .inl e⟩
theorem infoE : (Try.prog.info? 30).map (fun i => (i.zero, i.size, i.bytes)) = some (some (.int .i64 0), 1, 8) := by kernel_rfl
theorem ansN_le (T : Tab) (Y : YS) (m : MV) : ansN T Y m ≤ 6 := by
  unfold ansN
  repeat (first | omega | split)
theorem movesE_le (T : Tab) : ∀ (l : List MV) (Y : YS) (x : Nat), x ∈ movesE T Y l → x ≤ 6
  | [], _, _, h => absurd h (by show ¬ _ ∈ []; simp)
  | m :: l, Y, x, h => by
    have h : x ∈ ansN T Y m :: movesE T (moveY T Y m) l := h
    rcases List.mem_cons.1 h with rfl | h
    · exact ansN_le T Y m
    · exact movesE_le T l _ x h
theorem errs_ok (T : Tab) (Y : YS) (l : List MV) (i : Nat) (hi : i < l.length) : i64ok ((intE (errsY T Y l)).getD i 0) := by
  have hl : (errsY T Y l).length = l.length := movesE_len T l _
  have hi2 : i < (intE (errsY T Y l)).length := by unfold intE; rw [List.length_map]; omega
  have hm : (intE (errsY T Y l)).getD i 0 ∈ intE (errsY T Y l) := by rw [List.getD_eq_getElem?_getD, List.getElem?_eq_getElem hi2]; exact List.getElem_mem hi2
  unfold intE at hm
  obtain ⟨x, hx, e⟩ := List.mem_map.1 hm
  have := movesE_le T l _ x hx
  unfold intE
  rw [← e]
  show i64ok (x : Int)
  unfold i64ok; omega
set_option maxRecDepth 100000 in
set_option maxHeartbeats 16000000 in
theorem yframe_any (y : Yd) (Y : YS) (ms : List MV) (vl : Value) (w : World) (H : YdAt w y Y) (hc : checkE y.u.T = 0) (hT : TOk y.u.T) (htk : 0 ≤ y.u.T.tracks ∧ y.u.T.tracks ≤ 24) (hd : y.d ≤ 100) (hF : YFine y.u.T Y)
    (hm : MvsAt w vl ms) (hoff : ∀ b off n c, vl = .slice (some ⟨b, off, none⟩) n c → 0 < ms.length → ¬ y.M b) (hlen : ms.length ≤ 1000) :
    Calls Try.prog 14 #[.pointer (some ⟨y.g, 0, none⟩), vl] w fun e w' =>
      (∃ ve, e = .returned (.tuple #[(frameY y.u.T y.d Y ms).L.val, ve]) ∧ IntsAt w' ve (intE (errsY y.u.T Y ms)) ∧ ∀ b o k c, ve = .slice (some ⟨b, o, none⟩) k c → w.heap.size ≤ b) ∧ TurnY y w (frameY y.u.T y.d Y ms) w' := by
  obtain ⟨⟨ma, mc, rfl, hm1, hm2, hms⟩, hmo⟩ := hm
  have HY := Lib.hid H; have HC := Lib.hid hc; have HT := Lib.hid hT; have HTK := Lib.hid htk; have HFN := Lib.hid hF; have HMS := Lib.hid hms; have HMO := Lib.hid hmo; have HD := Lib.hid hd; have HOFF := Lib.hid hoff
  obtain ⟨w1, hw1⟩ : ∃ w1, w1 = w.alloc (.cells #[.int .u32 0, .int .u32 0, .int .u32 0, .int .u32 0] 35) := ⟨_, rfl⟩
  have B1 : Hid (Below w.heap.size w w1) := by rw [hw1]; exact tb_alloc_below _ _
  have R1 : Hid (w1.heap[w.heap.size]? = some (.cells #[.int .u32 0, .int .u32 0, .int .u32 0, .int .u32 0] 35 (0, 0))) := by rw [hw1]; exact heap_alloc_new _ _
  have HW1 := Lib.hid hw1
  have T1 : Hid (TurnY y w { Y with tn := freshT Y.tn 0 } w1) := TurnY.of_below H B1.out
  have HG : Hid (y.g < w.heap.size ∧ y.tb < w.heap.size ∧ y.pb < w.heap.size ∧ y.u.g < w.heap.size ∧ y.u.rb < w.heap.size ∧ y.u.pb < w.heap.size) := ⟨heap_lt H.obj, H.ts.lt, H.ps.lt, heap_lt H.au.obj, H.au.rlt, H.au.pl⟩
  have HN := Lib.hid hT.n; have HP := Lib.hid hT.p
  have gA := cell_row (j := 10) T1.out.1.obj rfl
  have lg := heap_lt T1.out.1.obj
  clear hw1 H hc hT htk hF hms hmo hd hoff
  unfold maxLen at hm2
  have hN := HN.out; have hP := HP.out
  have HZ : Hid (w.heap.size < w1.heap.size) := heap_lt R1.out
  obtain ⟨rb, hrb⟩ : ∃ b, b = w.heap.size := ⟨_, rfl⟩
  have HRB := Lib.hid hrb
  have HRM : Hid (¬ y.M rb) := fun h => by
    have h1 := HG.out; have h2 := HRB.out
    rcases h with h | h | h | h | h <;> omega
  go_enter Try.func14, Try.ntmps14
  go_upto_region 3 with fail
  rw [← HW1.out, ← hrb]
  rw [← hrb] at R1
  clear hrb HW1
  go_upto_region 4 with fail
  clear gA lg
  obtain ⟨N, hN1⟩ : ∃ n, n = y.u.T.rts.length := ⟨_, rfl⟩
  have HNN := Lib.hid hN1
  rw [← hN1] at hN ⊢
  clear hN1
  obtain ⟨M, hM1⟩ : ∃ n, n = y.u.T.pts.length := ⟨_, rfl⟩
  have HMM := Lib.hid hM1
  rw [← hM1] at hP
  clear hM1
  go_loopw [22] (fun i wr => ∃ k : Nat, k ≤ N ∧ i = .int .i64 k ∧ TurnY y w { Y with tn := freshT Y.tn k } wr ∧ wr.heap[rb]? = some (.cells #[.int .u32 0, .int .u32 0, .int .u32 0, .int .u32 0] 35 (0, 0))) (fun i _ => N - (intOf i).toNat)
  case atStart => exact ⟨0, Nat.zero_le _, rfl, T1.out, R1.out⟩
  case round =>
    clear T1 R1
    obtain ⟨k, hk, rfl, ht2, hr2⟩ := hrel
    have T2 := Lib.hid ht2; have R2 := Lib.hid hr2
    clear ht2 hr2
    obtain ⟨w2, rfl⟩ : ∃ w2 : World, w2 = wr := ⟨_, rfl⟩
    by_cases hlt : k < N
    case pos =>
      have HLT : Hid (k < y.u.T.rts.length) := by rw [← HNN.out]; exact hlt
      have gA := cell_row (j := 10) T2.out.1.obj rfl
      have lg := heap_lt T2.out.1.obj
      obtain ⟨_, t1, _, _, tf⟩ := T2.out.1.tcell HLT.out
      have tf1 := tf (k * 4 + 1)
      have lt := T2.out.1.ts.lt
      clear tf
      rw [← HNN.out] at gA
      have T3 : Hid (TurnY y w { Y with tn := freshT Y.tn (k + 1) } (w2.setCell ⟨y.tb, k * 4 + 1, none⟩ (.bool false))) := by
        show TurnY _ _ _ _
        rw [freshT_succ]
        exact T2.out.set_mv k false
      have R3 : Hid ((w2.setCell ⟨y.tb, k * 4 + 1, none⟩ (.bool false)).heap[rb]? = _) := (heap_setCell_other _ _ _ _ (by have := HG.out; have := HRB.out; show ¬ _ = _; dsimp only; omega)).trans R2.out
      go_wp2_with fail
      go_roundw
      case rel => exact ⟨k + 1, by omega, by go_num, T3.out, R3.out⟩
      case measure => simp [intOf]; omega
    case neg =>
    obtain rfl : N = k := by omega
    have T3 : Hid (TurnY y w (freshY Y) w2) := ⟨T2.out.1.tn_congr (fun j hj => if_pos (by rw [HNN.out]; exact hj)), T2.out.2⟩
    clear T2
    obtain ⟨w4, hw4⟩ : ∃ w4, w4 = w2.alloc (.cells #[.int .u32 0, .int .u32 0, .int .u32 0, .int .u32 0, .int .u32 0, .int .u32 0] 85) := ⟨_, rfl⟩
    have HW4 := Lib.hid hw4
    have B24 : Hid (Below w2.heap.size w2 w4) := by rw [hw4]; exact tb_alloc_below _ _
    have F4 : Hid (FeedAt w4 w2.heap.size fd00) := by rw [hw4]; exact heap_alloc_new _ _
    have T4 := Lib.hid (T3.out.below B24.out)
    have R4 := Lib.hid (tb_kept R2.out B24.out)
    have HF4 : Hid (w.heap.size ≤ w2.heap.size ∧ rb < w2.heap.size ∧ w2.heap.size < w4.heap.size) := ⟨T3.out.2.size, heap_lt R2.out, heap_lt F4.out⟩
    go_upto_region 9 with fail
    rw [← HW4.out]
    clear HW4 hw4 T3 R2 B24
    obtain ⟨fb, hfb⟩ : ∃ b, b = w2.heap.size := ⟨_, rfl⟩
    rw [← hfb] at F4 HF4 ⊢
    clear hfb
    have HOF : Hid (OffY y fb) := ⟨fun h => by
      have h1 := HG.out; have h2 := HF4.out
      rcases h with h | h | h | h | h <;> omega, by have := HY.out.au.bel.size; have := HF4.out; omega, by have := HG.out; have := HF4.out; omega⟩
    have TF4 : Hid (TurnF y fb w (movesY y.u.T (freshY Y) (ms.take 0)) (movesF y.u.T (freshY Y) fd00 (ms.take 0)) w4) := ⟨T4.out.1, F4.out, T4.out.2.mono fun i _ hi => .inl hi⟩
    obtain ⟨i0, hi, hz0, hz1, hz2⟩ := tb_info infoE
    have HIn := Lib.hid hi; have HZ0 := Lib.hid hz0; have HZ1 := Lib.hid hz1; have HZ2 := Lib.hid hz2
    clear hi hz0 hz1 hz2 T4 F4
    obtain ⟨C, hC⟩ : ∃ c, c = w4.heap.size := ⟨_, rfl⟩
    have HCB : Hid (w.heap.size ≤ fb ∧ rb < fb ∧ fb < C ∧ C ≤ w4.heap.size) := by have := HF4.out; show _ ∧ _; omega
    clear hC
    have HYM : Hid (∀ g, C ≤ g → ¬ (y.M g ∨ g = fb)) := fun g hg h => by
      have h1 := HG.out; have h2 := HCB.out
      rcases h with (h | h | h | h | h) | h <;> omega
    have HRF : Hid (¬ (y.M rb ∨ rb = fb)) := fun h => by
      have h2 := HCB.out
      rcases h with h | h
      · exact HRM.out h
      · omega
    go_upto_region 10 with fail
    go_loopw [35, 5] (fun i sv wr => ∃ (k : Nat) (ve : Value), k ≤ ms.length ∧ i = .int .i64 k ∧ ve = sv ∧ TurnF y fb w (movesY y.u.T (freshY Y) (ms.take k)) (movesF y.u.T (freshY Y) fd00 (ms.take k)) wr ∧ wr.heap[rb]? = some (.cells #[.int .u32 0, .int .u32 0, .int .u32 0, .int .u32 0] 35 (0, 0)) ∧ wr.ownsRow C 30 1 ve k (intsV (intE (movesE y.u.T (freshY Y) (ms.take k)))) ∧ C ≤ wr.heap.size) (fun i _ _ => ms.length - (intOf i).toNat)
    case atStart => exact ⟨0, _, Nat.zero_le _, rfl, rfl, TF4.out, R4.out, ⟨rfl, .inl ⟨rfl, rfl⟩⟩, HCB.out.2.2.2⟩
    case round =>
      clear TF4 R4
      obtain ⟨k, ve, hk, rfl, rfl, ht5, hr5, ho5, hs5⟩ := hrel
      have T5 := Lib.hid ht5; have R5 := Lib.hid hr5; have O5 := Lib.hid ho5; have S5 := Lib.hid hs5
      clear ht5 hr5 ho5 hs5
      obtain ⟨w5, rfl⟩ : ∃ w5 : World, w5 = wr := ⟨_, rfl⟩
      by_cases hlt : k < ms.length
      case pos =>
        have HLT := Lib.hid hlt
        obtain ⟨b, off, rfl, hb, hx⟩ := (HMS.out.only T5.out.o (fun b off e hb h => by
          subst e
          rcases h with h | h
          · exact HOFF.out b off _ _ rfl (Nat.lt_of_le_of_lt (Nat.zero_le _) HLT.out) h
          · have := HCB.out; omega)).at (Nat.lt_of_le_of_lt (Nat.zero_le _) hlt)
        obtain ⟨kd, hkd⟩ : ∃ x, x = (ms.getD k mv0).kd := ⟨_, rfl⟩
        obtain ⟨z, hz⟩ : ∃ x, x = (ms.getD k mv0).n := ⟨_, rfl⟩
        have x0 : w5.cell? ⟨b, off + k * 2, none⟩ = some (.int .u8 (kd : Int)) := by rw [hkd]; exact hx k hlt 0 (by omega)
        have x1 : w5.cell? ⟨b, off + k * 2 + 1, none⟩ = some (.int .i64 z) := by rw [hz]; exact hx k hlt 1 (by omega)
        have HKZ : Hid (ms.getD k mv0 = ⟨kd, z⟩) := by rw [hkd, hz]; rfl
        have HOK := HMO.out k hlt
        rw [← hkd, ← hz] at HOK
        have HOK := Lib.hid HOK
        have HTS := Lib.hid (take_snoc mv0 hlt)
        rw [HKZ.out] at HTS
        clear hkd hz hx HKZ
        obtain ⟨w6, hw6⟩ : ∃ w6, w6 = w5.alloc (.cells #[.int .u8 (kd : Int), .int .i64 z] 56) := ⟨_, rfl⟩
        have HW6 := Lib.hid hw6
        have B56 : Hid (Below w5.heap.size w5 w6) := by rw [hw6]; exact tb_alloc_below _ _
        have M6 : Hid (w6.heap[w5.heap.size]? = some (.cells #[.int .u8 (kd : Int), .int .i64 z] 56 (0, 0))) := by rw [hw6]; exact heap_alloc_new _ _
        have T6 := Lib.hid (T5.out.below B56.out)
        have R6 := Lib.hid (tb_kept R5.out B56.out)
        have O6 : Hid (w6.ownsRow C 30 1 ve k (intsV (intE (movesE y.u.T (freshY Y) (ms.take k))))) := tb_own O5.out (Only.of_below (fun _ => False) B56.out) (fun _ _ h => h)
        have S6 : Hid (C ≤ w6.heap.size) := Nat.le_trans S5.out B56.out.size
        have hbl := hb
        go_upto_region 12 with fail
        rw [← HW6.out]
        obtain ⟨mb, hmb⟩ : ∃ b, b = w5.heap.size := ⟨_, rfl⟩
        rw [← hmb] at M6 ⊢
        clear x0 x1 hbl hmb HW6 hw6 T5 R5 O5 S5 B56 hb
        have m0 := cell_row (j := 0) M6.out rfl; have m1 := cell_row (j := 1) M6.out rfl
        have lm := heap_lt M6.out
        have MID := Lib.hid (mid_moves (fun n hn => (HT.out.tl n hn).1) HFN.out.inv (ms.take k) _ (mid_fresh HFN.out.inv))
        have HDO := Lib.hid (ydoes_any y (movesY y.u.T (freshY Y) (ms.take k)) (movesF y.u.T (freshY Y) fd00 (ms.take k)) fb kd z w6 T6.out.at_ T6.out.fd HOF.out HT.out (by rw [MID.out.A]; exact HFN.out.inv.ok) (by rw [MID.out.L]; exact (HFN.out.inv.lok HT.out).pr) (movesF_ok HT.out _ _ _ fd00_ok).ok HOK.out.1 HOK.out.2
          (mid_small HT.out MID.out (nw_moves _ _ (fun n hn => HFN.out.nw n hn))))
        rw [← movesY_snoc, ← movesF_snoc, ← HTS.out] at HDO
        have HES := Lib.hid (movesE_snoc y.u.T ⟨kd, z⟩ (ms.take k) (freshY Y))
        rw [← HTS.out] at HES
        generalize ansN y.u.T (movesY y.u.T (freshY Y) (ms.take k)) ⟨kd, z⟩ = q at *
        go_wp2_with fail
        refine HDO.out.mono ?_
        rintro e w7 ⟨rfl, hk7⟩
        have T7 := Lib.hid (T6.out.trans hk7)
        have R7 : Hid (w7.heap[rb]? = some (.cells #[.int .u32 0, .int .u32 0, .int .u32 0, .int .u32 0] 35 (0, 0))) := (hk7.o.block _ (heap_lt R6.out) HRF.out).trans R6.out
        have O7 : Hid (w7.ownsRow C 30 1 ve k (intsV (intE (movesE y.u.T (freshY Y) (ms.take k))))) := tb_own O6.out hk7.o (fun g hg h => HYM.out g (own_blk O6.out g hg) h)
        have S7 : Hid (C ≤ w7.heap.size) := Nat.le_trans S6.out hk7.o.size
        clear hk7 HDO m0 m1 lm M6 T6 R6 O6 S6
        have HO := Lib.hid (O7.out.alloc (.cells #[.int .i64 (q : Int)] 30))
        go_wp2_with (at_builtin; refine wpList_append_own_at _ rfl _ _ 51 rfl C 30 i0 (.int .i64 0) 1 8 Try.underlying51 HIn.out HZ0.out HZ1.out HZ2.out rfl (by decide) ve k _ rfl HO.out ⟨w7.heap.size, 0, none⟩ 1 1 [.int .i64 (q : Int)] rfl rfl (cell_one_new _ _ _) (fun u hu => by simp at hu; subst hu; rfl) (by unfold maxLen; omega) (by omega) (by have := S7.out; simp; omega) ?_)
        intro v8 w8 ho8 hg8 _ _
        obtain ⟨g8, cap8, rfl⟩ := own_slice ho8
        have L78 : Only (fun b => C ≤ b) w7 w8 := ((Only.refl _ w7).alloc _).trans (Only.grown hg8 (fun g hg => .inr (own_blk O7.out g hg)))
        have K8 : Hid (TurnF y fb w (movesY y.u.T (freshY Y) (ms.take (k + 1))) (movesF y.u.T (freshY Y) fd00 (ms.take (k + 1))) w8) := T7.out.fresh (fun b hb => by
          have h1 := HYM.out b hb; have h2 := HG.out; have h3 := HCB.out; have h4 := HY.out.au.bel.size
          exact ⟨fun h => h1 (.inl h), by omega, by omega⟩) (by have := HCB.out; omega) HCB.out.2.2.1 L78
        have R8 : Hid (w8.heap[rb]? = some (.cells #[.int .u32 0, .int .u32 0, .int .u32 0, .int .u32 0] 35 (0, 0))) := (L78.block _ (heap_lt R7.out) (by have := HCB.out; omega)).trans R7.out
        have S8 : Hid (C ≤ w8.heap.size) := Nat.le_trans S7.out L78.size
        rw [← intsV_snoc, ← intE_snoc, ← HES.out] at ho8
        have O8 := Lib.hid ho8
        clear L78 ho8 hg8 HO T7 R7 O7 S7
        go_wp2_with fail
        go_roundw
        case rel => exact ⟨k + 1, _, by omega, by go_num, rfl, K8.out, R8.out, O8.out, S8.out⟩
        case measure => simp [intOf]; omega
      case neg =>
      obtain rfl : ms.length = k := by omega
      rw [List.take_of_length_le (Nat.le_refl _)] at T5 O5
      obtain ⟨Z, hZ⟩ : ∃ Z, Z = movesY y.u.T (freshY Y) ms := ⟨_, rfl⟩
      obtain ⟨G, hG⟩ : ∃ Z, Z = movesF y.u.T (freshY Y) fd00 ms := ⟨_, rfl⟩
      rw [← hZ, ← hG] at T5
      have MID : Hid (MidY y.u.T Y Z) := by rw [hZ]; exact mid_moves (fun n hn => (HT.out.tl n hn).1) HFN.out.inv ms _ (mid_fresh HFN.out.inv)
      have HFE : Hid (feedY y.u.T Y ms = feedsF y.u.T (tickY Z) G) := by rw [hZ, hG]; rfl
      have HFR : Hid (frameY y.u.T y.d Y ms = turnY y.u.T y.d (feedY y.u.T Y ms) (tickY Z)) := by rw [hZ]; rfl
      have HGO : Hid (FdOk G) := by rw [hG]; exact movesF_ok HT.out ms _ _ fd00_ok
      have HER : Hid (errsY y.u.T Y ms = movesE y.u.T (freshY Y) ms) := rfl
      rw [← HER.out] at O5
      clear hZ hG HER
      have T50 : Hid (TurnF y fb w { Z with pn := tickP Z.pn 0 } G w5) := T5.out
      clear T5
      have gB := cell_row (j := 11) T50.out.at_.obj rfl
      have lg := heap_lt T50.out.at_.obj
      go_upto_region 15 with fail
      clear gB lg
      rw [← HMM.out]
      go_loopw [51] (fun i wr => ∃ k : Nat, k ≤ M ∧ i = .int .i64 k ∧ TurnF y fb w { Z with pn := tickP Z.pn k } G wr ∧ wr.heap[rb]? = some (.cells #[.int .u32 0, .int .u32 0, .int .u32 0, .int .u32 0] 35 (0, 0)) ∧ wr.ownsRow C 30 1 ve ms.length (intsV (intE (errsY y.u.T Y ms))) ∧ C ≤ wr.heap.size) (fun i _ => M - (intOf i).toNat)
      case atStart => exact ⟨0, Nat.zero_le _, rfl, T50.out, R5.out, O5.out, S5.out⟩
      case round =>
        clear T50 R5 O5 S5
        obtain ⟨k, hk, rfl, ht6, hr6, ho6, hs6⟩ := hrel
        have T6 := Lib.hid ht6; have R6 := Lib.hid hr6; have O6 := Lib.hid ho6; have S6 := Lib.hid hs6
        clear ht6 hr6 ho6 hs6
        obtain ⟨w6, rfl⟩ : ∃ w6 : World, w6 = wr := ⟨_, rfl⟩
        have gB := cell_row (j := 11) T6.out.at_.obj rfl
        have lg := heap_lt T6.out.at_.obj
        rw [← HMM.out] at gB
        by_cases hlt : k < M
        case pos =>
          have HLT : Hid (k < y.u.T.pts.length) := by rw [← HMM.out]; exact hlt
          obtain ⟨_, p1, _, pf⟩ := T6.out.at_.pcell HLT.out
          have pf1 := pf (k * 3 + 1)
          have lp := T6.out.at_.ps.lt
          have e1 : (tickP Z.pn k k).lf = (Z.pn k).lf := by rw [tickP_at]
          have HLF := Lib.hid (lf_mid MID.out HFN.out.lf k)
          rw [e1] at p1
          clear pf e1
          have hLF := HLF.out
          obtain ⟨lf, hlf⟩ : ∃ x, x = (Z.pn k).lf := ⟨_, rfl⟩
          rw [← hlf] at p1 hLF
          have HSP := Lib.hid (T6.out.of_turn HOF.out ((TurnY.refl T6.out.at_).set_lf k (lf - 1)))
          have HSE : Hid ((YS.setP { Z with pn := tickP Z.pn k } k { (tickP Z.pn k k) with lf := lf - 1 }) = { Z with pn := tickP Z.pn (k + 1) }) := by
            show _ = _
            rw [tickP_succ, tickP_at, hlf]; rfl
          rw [HSE.out] at HSP
          clear hlf HSE
          go_upto_region 17 with fail
          go_region
          rw [show (if (lf : Int) - 1 < 0 then (0 : Int) else (lf : Int) - 1) = ((lf - 1 : Nat) : Int) by split <;> omega]
          have T7 := Lib.hid (HSP.out.below (w2 := (w6.setCell ⟨y.pb, k * 3 + 1, none⟩ (.int .i64 ((lf - 1 : Nat) : Int))).drew) ⟨rfl, rfl, rfl, Nat.le_refl _, fun _ _ => rfl⟩)
          have R7 : Hid ((w6.setCell ⟨y.pb, k * 3 + 1, none⟩ (.int .i64 ((lf - 1 : Nat) : Int))).drew.heap[rb]? = _) := (heap_setCell_other _ _ _ _ (by have := HG.out; have := HRB.out; show ¬ _ = _; dsimp only; omega)).trans R6.out
          have L67 : Only (fun b => b = y.pb) w6 (w6.setCell ⟨y.pb, k * 3 + 1, none⟩ (.int .i64 ((lf - 1 : Nat) : Int))).drew := Only.drew (show Only (fun b => b = y.pb) w6 (w6.setCell ⟨y.pb, k * 3 + 1, none⟩ (.int .i64 ((lf - 1 : Nat) : Int))) from (Only.refl _ w6).set _ _ (.inr rfl))
          have O7 := Lib.hid (tb_own O6.out L67 (fun g hg h => HYM.out g (own_blk O6.out g hg) (.inl (.inr (.inr (.inl h))))))
          have S7 : Hid (C ≤ (w6.setCell ⟨y.pb, k * 3 + 1, none⟩ (.int .i64 ((lf - 1 : Nat) : Int))).drew.heap.size) := Nat.le_trans S6.out L67.size
          generalize (w6.setCell ⟨y.pb, k * 3 + 1, none⟩ (.int .i64 ((lf - 1 : Nat) : Int))).drew = w7 at *
          clear gB lg p1 pf1 lp HSP L67 T6 R6 O6 S6
          go_wp2_with fail
          go_roundw
          case rel => exact ⟨k + 1, by omega, by go_num, T7.out, R7.out, O7.out, S7.out⟩
          case measure => simp [intOf]; omega
        case neg =>
        obtain rfl : M = k := by omega
        have T7 : Hid (TurnF y fb w (tickY Z) G w6) := ⟨T6.out.at_.pn_congr (fun j hj => if_pos (by rw [HMM.out]; exact hj)), T6.out.fd, T6.out.o⟩
        clear gB lg T6
        have HFD := Lib.hid (fun W (hW : Below w6.heap.size w6 W) => yfeeds_any y (tickY Z) G W (T7.out.at_.below hW) HT.out HTK.out (show OnOk y.u.T Z.tn from mid_onOk MID.out)
          (fun p => by
            have h1 := lf_mid MID.out HFN.out.lf p
            have h2 := (MID.out.pn p).1
            have h3 := HFN.out.inv.t12 p
            show (Z.pn p).sd < 256 ∧ (Z.pn p).lf - 1 ≤ 101
            omega) ⟨HGO.out.cl, HGO.out.no, HGO.out.re⟩)
        rw [← HFE.out] at HFD
        have HST := Lib.hid (fun W (hW : Below w6.heap.size w6 W) => step_any y.u Y.A (feedY y.u.T Y ms) W (by have := (T7.out.at_.below hW).au; rw [show (tickY Z).A = Y.A from MID.out.A] at this; exact this) (feedY_ok HT.out HTK.out.2 Y ms) HT.out HFN.out.inv.ok)
        obtain ⟨S, hS⟩ : ∃ S, S = stepS y.u.T (feedY y.u.T Y ms) Y.A := ⟨_, rfl⟩
        rw [← hS] at HST
        obtain ⟨L, hL⟩ : ∃ o, o = orderS y.u.T (feedY y.u.T Y ms) S := ⟨_, rfl⟩
        rw [← hL] at HST
        have HFR2 : Hid (frameY y.u.T y.d Y ms = ⟨S, L, (tickY Z).tn, fun n => turnP L y.d n ((tickY Z).pn n)⟩) := by
          show _ = _
          rw [HFR.out, hL, hS]; unfold turnY; rw [show (tickY Z).A = Y.A from MID.out.A]
        have HLO : Hid L.Ok := by show L.Ok; rw [hL, hS]; exact order_ok HT.out _ (stepS_ok HT.out _ HFN.out.inv.ok)
        clear hS hL HFR HFE
        unfold FD.val at HFD
        unfold OD.val at HST
        have HSV : Hid (∀ V Y', TurnF y fb w Y' G V → (V.cell? ⟨y.g, 4, none⟩ = some (.pointer (some ⟨y.u.g, 0, none⟩)) ∧ V.cell? ⟨fb, 0, none⟩ = some (.int .u32 (G.cl : Int)) ∧ V.cell? ⟨fb, 1, none⟩ = some (.int .u32 (G.no : Int)) ∧ V.cell? ⟨fb, 2, none⟩ = some (.int .u32 (G.re : Int)) ∧ V.cell? ⟨fb, 3, none⟩ = some (.int .u32 (G.ak : Int)) ∧ V.cell? ⟨fb, 4, none⟩ = some (.int .u32 (G.ca : Int)) ∧ V.cell? ⟨fb, 5, none⟩ = some (.int .u32 (G.rq : Int))) ∧ y.g < V.heap.size ∧ fb < V.heap.size) := fun V Y' h =>
          ⟨⟨cell_row h.at_.obj rfl, cell_row h.fd rfl, cell_row h.fd rfl, cell_row h.fd rfl, cell_row h.fd rfl, cell_row h.fd rfl, cell_row h.fd rfl⟩, heap_lt h.at_.obj, heap_lt h.fd⟩
        have TD : Hid (TurnF y fb w { tickY Z with A := Z.A } G w6.drew) := T7.out.below ⟨rfl, rfl, rfl, Nat.le_refl _, fun _ _ => rfl⟩
        have RD : Hid (w6.drew.heap[rb]? = some (.cells #[.int .u32 0, .int .u32 0, .int .u32 0, .int .u32 0] 35 (0, 0))) := R6.out
        have OD6 := Lib.hid (tb_own (w' := w6.drew) O6.out (Only.drew (Only.refl (fun _ => False) w6)) (fun _ _ h => h))
        go_upto_region 19 with fail
        go_region_held3 (fun V => (V.cell? ⟨y.g, 4, none⟩ = some (.pointer (some ⟨y.u.g, 0, none⟩)) ∧ V.cell? ⟨fb, 0, none⟩ = some (.int .u32 (G.cl : Int)) ∧ V.cell? ⟨fb, 1, none⟩ = some (.int .u32 (G.no : Int)) ∧ V.cell? ⟨fb, 2, none⟩ = some (.int .u32 (G.re : Int)) ∧ V.cell? ⟨fb, 3, none⟩ = some (.int .u32 (G.ak : Int)) ∧ V.cell? ⟨fb, 4, none⟩ = some (.int .u32 (G.ca : Int)) ∧ V.cell? ⟨fb, 5, none⟩ = some (.int .u32 (G.rq : Int))) ∧ y.g < V.heap.size ∧ fb < V.heap.size)
          (first | exact HSV.out _ _ T9.out | exact HSV.out _ _ T8.out | exact HSV.out _ _ T7b.out | exact HSV.out _ _ TD.out)
          (first
            | (go_at_call 30; (with_reducible refine (HST.out w7 B7.out).mono ?_); rintro e w8 ⟨rfl, ha8, ho8⟩;
               have T8 : Hid (TurnF y fb w { tickY Z with A := S } G w8) := T7b.out.of_turn HOF.out ⟨T7b.out.at_.turnA ho8 ha8, ho8.mono (fun i _ hi => .inr (.inr (.inr hi)))⟩;
               have L78 : Hid (Only (fun b => y.M b ∨ b = fb) w6 w8) := (Only.of_below _ B7.out).trans (ho8.mono (fun i _ hi => .inl (.inr (.inr (.inr hi)))));
               have c6 := cell_row (j := 6) T8.out.at_.obj rfl; have c7 := cell_row (j := 7) T8.out.at_.obj rfl; have c8 := cell_row (j := 8) T8.out.at_.obj rfl; have c9 := cell_row (j := 9) T8.out.at_.obj rfl;
               have cf6 : w8.frozen? ⟨y.g, 6, none⟩ = false := frozen_of_row _ _ _ _ _ T8.out.at_.obj; have cf7 : w8.frozen? ⟨y.g, 7, none⟩ = false := frozen_of_row _ _ _ _ _ T8.out.at_.obj; have cf8 : w8.frozen? ⟨y.g, 8, none⟩ = false := frozen_of_row _ _ _ _ _ T8.out.at_.obj; have cf9 : w8.frozen? ⟨y.g, 9, none⟩ = false := frozen_of_row _ _ _ _ _ T8.out.at_.obj;
               have T9 := Lib.hid (T8.out.set_L HOF.out L);
               clear ha8 ho8)
            | (go_at_call 31; (with_reducible refine (HFD.out w6.drew ⟨rfl, rfl, rfl, Nat.le_refl _, fun _ _ => rfl⟩).mono ?_); rintro e w7 ⟨rfl, hb7⟩;
               have B7 : Hid (Below w6.heap.size w6 w7) := (Below.drew (Below.refl w6.heap.size w6)).trans hb7;
               have T7b := Lib.hid (TD.out.below hb7);
               clear hb7))
        rename_i hheld
        clear hheld
        have L89 : Only (fun b => y.M b ∨ b = fb) w8 ((((w8.setCell ⟨y.g, 6, none⟩ (.int .u32 (L.pr : Int))).setCell ⟨y.g, 7, none⟩ (.int .u32 (L.no : Int))).setCell ⟨y.g, 8, none⟩ (.int .u32 (L.re : Int))).setCell ⟨y.g, 9, none⟩ (.int .u32 (L.lo : Int))) := ((((Only.refl (fun b => y.M b ∨ b = fb) w8).set _ _ (.inr (.inl (.inl rfl)))).set _ _ (.inr (.inl (.inl rfl)))).set _ _ (.inr (.inl (.inl rfl)))).set _ _ (.inr (.inl (.inl rfl)))
        have L69 := L78.out.trans L89
        have R9 : Hid (((((w8.setCell ⟨y.g, 6, none⟩ (.int .u32 (L.pr : Int))).setCell ⟨y.g, 7, none⟩ (.int .u32 (L.no : Int))).setCell ⟨y.g, 8, none⟩ (.int .u32 (L.re : Int))).setCell ⟨y.g, 9, none⟩ (.int .u32 (L.lo : Int))).heap[rb]? = some (.cells #[.int .u32 0, .int .u32 0, .int .u32 0, .int .u32 0] 35 (0, 0))) := (L69.block _ (heap_lt R6.out) HRF.out).trans R6.out
        have O9 := Lib.hid (tb_own O6.out L69 (fun g hg h => HYM.out g (own_blk O6.out g hg) h))
        have S9 : Hid (C ≤ ((((w8.setCell ⟨y.g, 6, none⟩ (.int .u32 (L.pr : Int))).setCell ⟨y.g, 7, none⟩ (.int .u32 (L.no : Int))).setCell ⟨y.g, 8, none⟩ (.int .u32 (L.re : Int))).setCell ⟨y.g, 9, none⟩ (.int .u32 (L.lo : Int))).heap.size) := Nat.le_trans S6.out L69.size
        have K9 : Hid (TurnF y fb w ⟨S, L, Z.tn, turnK L y.d (tickY Z).pn 0⟩ G ((((w8.setCell ⟨y.g, 6, none⟩ (.int .u32 (L.pr : Int))).setCell ⟨y.g, 7, none⟩ (.int .u32 (L.no : Int))).setCell ⟨y.g, 8, none⟩ (.int .u32 (L.re : Int))).setCell ⟨y.g, 9, none⟩ (.int .u32 (L.lo : Int)))) := T9.out
        generalize ((((w8.setCell ⟨y.g, 6, none⟩ (.int .u32 (L.pr : Int))).setCell ⟨y.g, 7, none⟩ (.int .u32 (L.no : Int))).setCell ⟨y.g, 8, none⟩ (.int .u32 (L.re : Int))).setCell ⟨y.g, 9, none⟩ (.int .u32 (L.lo : Int))) = w9 at *
        clear L89 L69 T9 T8 T7b TD RD OD6 R6 O6 S6 T7 c6 c7 c8 c9 cf6 cf7 cf8 cf9 HST HFD HSV L78 B7
        have gB := cell_row (j := 11) K9.out.at_.obj rfl
        have lg := heap_lt K9.out.at_.obj
        go_upto_region 21 with fail
        clear gB lg
        rw [← HMM.out]
        go_loopw [88] (fun i wr => ∃ k : Nat, k ≤ M ∧ i = .int .i64 k ∧ TurnF y fb w ⟨S, L, Z.tn, turnK L y.d (tickY Z).pn k⟩ G wr ∧ wr.heap[rb]? = some (.cells #[.int .u32 0, .int .u32 0, .int .u32 0, .int .u32 0] 35 (0, 0)) ∧ wr.ownsRow C 30 1 ve ms.length (intsV (intE (errsY y.u.T Y ms))) ∧ C ≤ wr.heap.size) (fun i _ => M - (intOf i).toNat)
        case atStart => exact ⟨0, Nat.zero_le _, rfl, K9.out, R9.out, O9.out, S9.out⟩
        case round =>
          clear K9 R9 O9 S9
          obtain ⟨k, hk, rfl, ht6, hr6, ho6, hs6⟩ := hrel
          have T6 := Lib.hid ht6; have R6 := Lib.hid hr6; have O6 := Lib.hid ho6; have S6 := Lib.hid hs6
          clear ht6 hr6 ho6 hs6
          obtain ⟨w6, rfl⟩ : ∃ w6 : World, w6 = wr := ⟨_, rfl⟩
          by_cases hlt : k < M
          case pos =>
            have HLT : Hid (k < y.u.T.pts.length) := by rw [← HMM.out]; exact hlt
            have gB := cell_row (j := 11) T6.out.at_.obj rfl
            rw [← HMM.out] at gB
            have g5 := cell_row (j := 5) T6.out.at_.obj rfl; have g7 := cell_row (j := 7) T6.out.at_.obj rfl; have g8 := cell_row (j := 8) T6.out.at_.obj rfl
            have lg := heap_lt T6.out.at_.obj
            obtain ⟨p0, p1, _, pf⟩ := T6.out.at_.pcell HLT.out
            have pf0 := pf (k * 3); have pf1 := pf (k * 3 + 1)
            have lp := T6.out.at_.ps.lt
            dsimp only at p0 p1
            rw [show (turnK L y.d (tickY Z).pn k k) = (tickY Z).pn k from turnK_at _ _ _ _] at p0 p1
            obtain ⟨p, hp⟩ : ∃ p, p = (tickY Z).pn k := ⟨_, rfl⟩
            have hp12 : p.sd = 1 ∨ p.sd = 2 := by
              rw [hp]
              show (Z.pn k).sd = 1 ∨ (Z.pn k).sd = 2
              rw [(MID.out.pn k).1]; exact HFN.out.inv.t12 k
            rw [← hp] at p0 p1
            have HTK1 : Hid (∀ q, q = turnP L y.d k p → turnK L y.d (tickY Z).pn (k + 1) = fun j => if j = k then q else turnK L y.d (tickY Z).pn k j) := fun q hq => by rw [hq, hp]; exact turnK_succ _ _ _ _
            have HKP : Hid (turnK L y.d (tickY Z).pn k k = p) := by show _ = _; rw [hp]; exact turnK_at _ _ _ _
            have HTP : Hid (turnP L y.d k p = if (if L.no.testBit k then 1 else if L.re.testBit k then 2 else p.sd) = p.sd then p else ⟨if L.no.testBit k then 1 else if L.re.testBit k then 2 else p.sd, y.d + 1, p.br⟩) := rfl
            have hbn := and_bit L.no k HLO.out.no
            have hbr := and_bit L.re k HLO.out.re
            rw [show min k 32 = k by omega] at hbn hbr
            have hdd := HD.out
            clear hp pf
            generalize L.no.testBit k = n at *
            generalize L.re.testBit k = r at *
            obtain ⟨sd, lf, br⟩ := p
            dsimp only at p0 p1 hp12
            cases n
            case true =>
              rcases hp12 with rfl | rfl
              case inl =>
                have HST : Hid (turnK L y.d (tickY Z).pn (k + 1) = turnK L y.d (tickY Z).pn k) := by
                  show _ = _
                  rw [HTK1.out _ rfl, HTP.out]
                  funext j
                  by_cases e : j = k
                  · rw [if_pos e, e, HKP.out]; rfl
                  · rw [if_neg e]
                go_wp2_with fail
                go_roundw
                case rel => exact ⟨k + 1, by omega, by go_num, by rw [HST.out]; exact T6.out, R6.out, O6.out, S6.out⟩
                case measure => simp [intOf]; omega
              case inr =>
                have HST : Hid (turnK L y.d (tickY Z).pn (k + 1) = fun j => if j = k then ⟨1, y.d + 1, br⟩ else turnK L y.d (tickY Z).pn k j) := HTK1.out _ HTP.out.symm
                have HW : Hid (TurnF y fb w ⟨S, L, Z.tn, turnK L y.d (tickY Z).pn (k + 1)⟩ G ((w6.setCell ⟨y.pb, k * 3, none⟩ (.int .u8 1)).setCell ⟨y.pb, k * 3 + 1, none⟩ (.int .i64 ((y.d : Int) + 1)))) := by
                  have h := ((TurnY.refl T6.out.at_).set_sd k 1).set_lf k (y.d + 1)
                  rw [setP_setP] at h
                  have e : YS.setP ⟨S, L, Z.tn, turnK L y.d (tickY Z).pn k⟩ k { (YS.setP ⟨S, L, Z.tn, turnK L y.d (tickY Z).pn k⟩ k { (turnK L y.d (tickY Z).pn k k) with sd := 1 }).pn k with lf := y.d + 1 } = ⟨S, L, Z.tn, turnK L y.d (tickY Z).pn (k + 1)⟩ := by
                    rw [HST.out]
                    show (⟨S, L, Z.tn, fun j => if j = k then { (if k = k then ({ (turnK L y.d (tickY Z).pn k k) with sd := 1 } : PN) else turnK L y.d (tickY Z).pn k k) with lf := y.d + 1 } else turnK L y.d (tickY Z).pn k j⟩ : YS) = _
                    rw [if_pos rfl, HKP.out]
                  rw [e] at h
                  exact T6.out.of_turn HOF.out h
                have LW : Only (fun b => y.M b ∨ b = fb) w6 ((w6.setCell ⟨y.pb, k * 3, none⟩ (.int .u8 1)).setCell ⟨y.pb, k * 3 + 1, none⟩ (.int .i64 ((y.d : Int) + 1))) := ((Only.refl (fun b => y.M b ∨ b = fb) w6).set _ _ (.inr (.inl (.inr (.inr (.inl rfl)))))).set _ _ (.inr (.inl (.inr (.inr (.inl rfl)))))
                have R7 := Lib.hid ((LW.block _ (heap_lt R6.out) HRF.out).trans R6.out)
                have O7 := Lib.hid (tb_own O6.out LW (fun g hg h => HYM.out g (own_blk O6.out g hg) h))
                have S7 := Lib.hid (Nat.le_trans S6.out LW.size)
                clear LW
                go_wp2_with fail
                go_roundw
                case rel => exact ⟨k + 1, by omega, by go_num, HW.out, R7.out, O7.out, S7.out⟩
                case measure => simp [intOf]; omega
            case false =>
            cases r
            case true =>
              rcases hp12 with rfl | rfl
              case inl =>
                have HST : Hid (turnK L y.d (tickY Z).pn (k + 1) = fun j => if j = k then ⟨2, y.d + 1, br⟩ else turnK L y.d (tickY Z).pn k j) := HTK1.out _ HTP.out.symm
                have HW : Hid (TurnF y fb w ⟨S, L, Z.tn, turnK L y.d (tickY Z).pn (k + 1)⟩ G ((w6.setCell ⟨y.pb, k * 3, none⟩ (.int .u8 2)).setCell ⟨y.pb, k * 3 + 1, none⟩ (.int .i64 ((y.d : Int) + 1)))) := by
                  have h := ((TurnY.refl T6.out.at_).set_sd k 2).set_lf k (y.d + 1)
                  rw [setP_setP] at h
                  have e : YS.setP ⟨S, L, Z.tn, turnK L y.d (tickY Z).pn k⟩ k { (YS.setP ⟨S, L, Z.tn, turnK L y.d (tickY Z).pn k⟩ k { (turnK L y.d (tickY Z).pn k k) with sd := 2 }).pn k with lf := y.d + 1 } = ⟨S, L, Z.tn, turnK L y.d (tickY Z).pn (k + 1)⟩ := by
                    rw [HST.out]
                    show (⟨S, L, Z.tn, fun j => if j = k then { (if k = k then ({ (turnK L y.d (tickY Z).pn k k) with sd := 2 } : PN) else turnK L y.d (tickY Z).pn k k) with lf := y.d + 1 } else turnK L y.d (tickY Z).pn k j⟩ : YS) = _
                    rw [if_pos rfl, HKP.out]
                  rw [e] at h
                  exact T6.out.of_turn HOF.out h
                have LW : Only (fun b => y.M b ∨ b = fb) w6 ((w6.setCell ⟨y.pb, k * 3, none⟩ (.int .u8 2)).setCell ⟨y.pb, k * 3 + 1, none⟩ (.int .i64 ((y.d : Int) + 1))) := ((Only.refl (fun b => y.M b ∨ b = fb) w6).set _ _ (.inr (.inl (.inr (.inr (.inl rfl)))))).set _ _ (.inr (.inl (.inr (.inr (.inl rfl)))))
                have R7 := Lib.hid ((LW.block _ (heap_lt R6.out) HRF.out).trans R6.out)
                have O7 := Lib.hid (tb_own O6.out LW (fun g hg h => HYM.out g (own_blk O6.out g hg) h))
                have S7 := Lib.hid (Nat.le_trans S6.out LW.size)
                clear LW
                go_wp2_with fail
                go_roundw
                case rel => exact ⟨k + 1, by omega, by go_num, HW.out, R7.out, O7.out, S7.out⟩
                case measure => simp [intOf]; omega
              case inr =>
                have HST : Hid (turnK L y.d (tickY Z).pn (k + 1) = turnK L y.d (tickY Z).pn k) := by
                  show _ = _
                  rw [HTK1.out _ rfl, HTP.out]
                  funext j
                  by_cases e : j = k
                  · rw [if_pos e, e, HKP.out]; rfl
                  · rw [if_neg e]
                go_wp2_with fail
                go_roundw
                case rel => exact ⟨k + 1, by omega, by go_num, by rw [HST.out]; exact T6.out, R6.out, O6.out, S6.out⟩
                case measure => simp [intOf]; omega
            case false =>
              have hs256 : (sd : Int) ≤ 255 := by omega
              have HST : Hid (turnK L y.d (tickY Z).pn (k + 1) = turnK L y.d (tickY Z).pn k) := by
                show _ = _
                rw [HTK1.out _ rfl, HTP.out]
                funext j
                by_cases e : j = k
                · rw [if_pos e, e, HKP.out]; (exact if_pos rfl)
                · rw [if_neg e]
              go_wp2_with fail
              go_roundw
              case rel => exact ⟨k + 1, by omega, by go_num, by rw [HST.out]; exact T6.out, R6.out, O6.out, S6.out⟩
              case measure => simp [intOf]; omega
          case neg =>
          obtain rfl : M = k := by omega
          have T7 : Hid (TurnF y fb w (frameY y.u.T y.d Y ms) G w6) := by
            show TurnF _ _ _ _ _ _
            rw [HFR2.out]
            exact ⟨T6.out.at_.pn_congr (fun j hj => if_pos (by rw [HMM.out]; exact hj)), T6.out.fd, T6.out.o⟩
          have HLL : Hid ((frameY y.u.T y.d Y ms).L = L) := by show _ = _; rw [HFR2.out]
          have g6 := cell_row (j := 6) T6.out.at_.obj rfl; have g7 := cell_row (j := 7) T6.out.at_.obj rfl; have g8 := cell_row (j := 8) T6.out.at_.obj rfl; have g9 := cell_row (j := 9) T6.out.at_.obj rfl
          have lg := heap_lt T6.out.at_.obj
          have z0 := cell_row (j := 0) R6.out rfl; have z1 := cell_row (j := 1) R6.out rfl; have z2 := cell_row (j := 2) R6.out rfl; have z3 := cell_row (j := 3) R6.out rfl
          have zf0 : w6.frozen? ⟨rb, 0, none⟩ = false := frozen_of_row _ _ _ _ _ R6.out
          have zf1 : w6.frozen? ⟨rb, 1, none⟩ = false := frozen_of_row _ _ _ _ _ R6.out
          have zf2 : w6.frozen? ⟨rb, 2, none⟩ = false := frozen_of_row _ _ _ _ _ R6.out
          have zf3 : w6.frozen? ⟨rb, 3, none⟩ = false := frozen_of_row _ _ _ _ _ R6.out
          have lr := heap_lt R6.out
          have HIN : Hid (IntsAt w6 ve (intE (errsY y.u.T Y ms))) := by
            have hl : (intE (errsY y.u.T Y ms)).length = ms.length := by unfold intE errsY; rw [List.length_map, movesE_len]
            exact own_ints (by rw [hl]; exact O6.out) fun i hi => errs_ok _ _ _ i (by rw [← hl]; exact hi)
          have HBS : Hid (∀ b o k c, ve = .slice (some ⟨b, o, none⟩) k c → w.heap.size ≤ b ∧ b ≠ rb) := fun b o k c e => by
            have h1 := HCB.out
            by_cases hb : b < C
            · exact absurd rfl (own_off O6.out hb b o k c e)
            · omega
          have HSET : Hid (∀ (W : World) (j : Nat) (x : Value), (IntsAt W ve (intE (errsY y.u.T Y ms)) ∧ TurnY y w (frameY y.u.T y.d Y ms) W) → IntsAt (W.setCell ⟨rb, j, none⟩ x) ve (intE (errsY y.u.T Y ms)) ∧ TurnY y w (frameY y.u.T y.d Y ms) (W.setCell ⟨rb, j, none⟩ x)) := fun W j x h => by
            have ho : Only (fun b => b = rb) W (W.setCell ⟨rb, j, none⟩ x) := (Only.refl (fun b => b = rb) W).set _ _ (.inr rfl)
            have h1 := HRB.out; have h2 := HG.out; have h3 := HY.out.au.bel.size
            exact ⟨h.1.only ho (fun b o k c e => (HBS.out b o k c e).2), h.2.1.offs (fun b hb => by rw [hb]; exact ⟨HRM.out, by omega, by omega⟩) ho, h.2.2.set _ _ (.inl (by omega))⟩
          have HEND : Hid (IntsAt w6 ve (intE (errsY y.u.T Y ms)) ∧ TurnY y w (frameY y.u.T y.d Y ms) w6) := ⟨HIN.out, T7.out.at_, T7.out.o.mono fun i hi h => by
            rcases h with h | h
            · exact h
            · have := HCB.out; omega⟩
          go_wp2_with fail
          exact bodyPost_ret (v := .tuple #[.agg #[.int .u32 (L.pr : Int), .int .u32 (L.no : Int), .int .u32 (L.re : Int), .int .u32 (L.lo : Int)], ve]) (by simp [results, Try.results14, go_sem, z0, z1, z2, z3, lr]) rfl
            (by
              have h := HSET.out _ 3 (.int .u32 (L.lo : Int)) (HSET.out _ 2 (.int .u32 (L.re : Int)) (HSET.out _ 1 (.int .u32 (L.no : Int)) (HSET.out _ 0 (.int .u32 (L.pr : Int)) HEND.out)))
              exact ⟨⟨ve, by rw [HLL.out]; rfl, h.1, fun b o k c e => (HBS.out b o k c e).1⟩, h.2⟩)
end Go.Proofs.Ytnjeiigdfdjccaa
