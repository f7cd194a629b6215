/- Print: what it puts together, and what it gives. -/
import Derived.Test.YtpodedhnlicckaaGreatDoorTbLi
import Derived.Test.YtpodedhnlicckaaGreatDoorTbGT
namespace Go.Proofs.YtpodedhnlicckaaGreatDoor
open Go.Shelf Go.RowKit
set_option linter.unusedVariables false
set_option linter.unusedSimpArgs false
def headI (T : Tab) : List UInt8 := putW (putW [] [wTr, Lib.itoa T.tracks] ++ [10]) [wSi, Lib.itoa T.sigs] ++ [10]
def ptI (F : List UInt8) (x : Int) : List UInt8 := putW F [wPt, Lib.itoa x] ++ [10]
def appI (a : Int) : List (List UInt8) := if a = -1 then [] else [wAp, Lib.itoa a]
def rtWi (r : Rt) : List (List UInt8) := wRo :: Lib.itoa r.sig :: wTr :: (r.tr.map Lib.itoa ++ wPs :: (r.pts.map itoaP ++ (appI r.app ++ wHo :: Lib.itoa (r.hold : Int) :: wCo :: r.con.map Lib.itoa)))
def rtI (F : List UInt8) (r : Rt) : List UInt8 := putW F (rtWi r) ++ [10]
def badR (r : Rt) : Bool := offR r.sig || (r.tr.any offR || (r.pts.any offP || ((!decide (r.app = -1) && offR r.app) || (offR (r.hold : Int) || r.con.any offR))))
def badT (T : Tab) : Bool := offR T.tracks || (offR T.sigs || (T.pts.any offR || T.rts.any badR))
theorem putW_app (F : List UInt8) (us vs : List (List UInt8)) : putW (putW F us) vs = putW F (us ++ vs) := by unfold putW; rw [List.foldl_append]
theorem offR_in (x : Int) : offR x = !inR x := by
  unfold offR inR
  rw [Bool.eq_iff_iff]; simp <;> omega
theorem any_not {α : Type} (l : List α) (p q : α → Bool) (h : ∀ x, p x = !q x) : l.any p = !l.all q := by
  induction l with
  | nil => rfl
  | cons x l ih => rw [List.any_cons, List.all_cons, ih, h x]; cases q x <;> rfl
theorem badR_good {r : Rt} (hh : r.hold < 65536) : badR r = !goodR r := by
  unfold badR goodR
  have h1 : offR (r.hold : Int) = false := by rw [offR_in]; unfold inR; simp; omega
  rw [h1, offR_in r.sig, any_not r.tr offR inR offR_in, any_not r.con offR inR offR_in, any_not r.pts offP (fun p => inR p.1) (fun p => offR_in p.1), offR_in r.app]
  cases inR r.sig <;> cases r.tr.all inR <;> cases (r.pts.all fun p => inR p.1) <;> cases decide (r.app = -1) <;> cases inR r.app <;> cases r.con.all inR <;> rfl
theorem any_not' {α : Type} (l : List α) (p q : α → Bool) (h : ∀ x ∈ l, p x = !q x) : l.any p = !l.all q := by
  induction l with
  | nil => rfl
  | cons x l ih => rw [List.any_cons, List.all_cons, ih (fun y hy => h y (List.mem_cons_of_mem _ hy)), h x (by simp)]; cases q x <;> rfl
theorem badT_good {T : Tab} (hh : ∀ r ∈ T.rts, r.hold < 65536) : badT T = !goodT T := by
  unfold badT goodT
  rw [offR_in T.tracks, offR_in T.sigs, any_not T.pts offR inR offR_in, any_not' T.rts badR goodR (fun r hr => badR_good (hh r hr))]
  cases inR T.tracks <;> cases inR T.sigs <;> cases T.pts.all inR <;> cases T.rts.all goodR <;> rfl
theorem goodR_parts {r : Rt} (h : goodR r = true) : inR r.sig = true ∧ (∀ x ∈ r.tr, inR x = true) ∧ (∀ p ∈ r.pts, inR p.1 = true) ∧ (r.app = -1 ∨ inR r.app = true) ∧ ∀ x ∈ r.con, inR x = true := by
  unfold goodR at h
  simp only [Bool.and_eq_true, Bool.or_eq_true, List.all_eq_true, decide_eq_true_eq] at h
  exact ⟨h.1, h.2.1, h.2.2.1, h.2.2.2.1, h.2.2.2.2⟩
theorem rtWi_good {r : Rt} (h : goodR r = true) : rtWi r = rtW r := by
  obtain ⟨h1, h2, h3, h4, h5⟩ := goodR_parts h
  unfold rtWi rtW
  have e1 : r.tr.map Lib.itoa = r.tr.map dI := List.map_congr_left fun x hx => itoa_dI (h2 x hx)
  have e2 : r.pts.map itoaP = r.pts.map ptW := List.map_congr_left fun p hp => by unfold itoaP ptW; rw [itoa_dI (h3 p hp)]
  have e3 : appI r.app = appW r.app := by
    unfold appI appW
    by_cases ha : r.app = -1
    · rw [if_pos ha, if_pos ha]
    · rw [if_neg ha, if_neg ha, itoa_dI (h4.resolve_left ha)]
  have e4 : r.con.map Lib.itoa = r.con.map dI := List.map_congr_left fun x hx => itoa_dI (h5 x hx)
  have e5 : Lib.itoa (r.hold : Int) = Lib.decDigits r.hold := by unfold Lib.itoa; rw [if_neg (by omega)]; rfl
  rw [itoa_dI h1, e1, e2, e3, e4, e5]
theorem two_okW {w : List UInt8} (hw : okW w) (x : Int) : ∀ q ∈ [w, dI x], okW q := by
  intro q hq
  simp only [List.mem_cons, List.not_mem_nil, or_false] at hq
  rcases hq with rfl | rfl
  · exact hw
  · exact okW_dI x
theorem line_two {F : List UInt8} (hF : begL F) {w : List UInt8} (hw : okW w) (x : Int) : putW F [w, dI x] ++ [10] = F ++ lineT [w, dI x] := by
  rw [putW_beg hF (two_okW hw x), List.append_assoc]; rfl
theorem headI_good {T : Tab} (h1 : inR T.tracks = true) (h2 : inR T.sigs = true) : headI T = headT T := by
  unfold headI headT
  rw [itoa_dI h1, itoa_dI h2, line_two (.inl rfl) ⟨by decide, by decide⟩, line_two (begL_line _ _) ⟨by decide, by decide⟩]; rfl
theorem ptsI_good : ∀ (l : List Int) (F : List UInt8), begL F → (∀ x ∈ l, inR x = true) → l.foldl ptI F = ptsX F l
  | [], F, _, _ => by unfold ptsX; simp
  | x :: l, F, hF, h => by
    rw [List.foldl_cons]
    have e : ptI F x = F ++ lineT [wPt, dI x] := by unfold ptI; rw [itoa_dI (h x (by simp)), line_two hF ⟨by decide, by decide⟩]
    rw [e, ptsI_good l _ (begL_line _ _) (fun y hy => h y (List.mem_cons_of_mem _ hy))]
    unfold ptsX
    rw [List.flatMap_cons, List.append_assoc]
theorem rtsI_good : ∀ (l : List Rt) (F : List UInt8), begL F → (∀ x ∈ l, goodR x = true) → l.foldl rtI F = rtsX F l
  | [], F, _, _ => by unfold rtsX; simp
  | x :: l, F, hF, h => by
    rw [List.foldl_cons]
    have e : rtI F x = F ++ lineT (rtW x) := by
      unfold rtI
      rw [rtWi_good (h x (by simp))]
      have := okW_rtW x
      unfold rtW at this ⊢
      rw [putW_beg hF this, List.append_assoc]; rfl
    rw [e, rtsI_good l _ (begL_line _ _) (fun y hy => h y (List.mem_cons_of_mem _ hy))]
    unfold rtsX
    rw [List.flatMap_cons, List.append_assoc]
def allI (T : Tab) : List UInt8 := T.rts.foldl rtI (T.pts.foldl ptI (headI T))
theorem allI_good {T : Tab} (h : goodT T = true) : allI T = textT T := by
  unfold goodT at h
  simp only [Bool.and_eq_true, List.all_eq_true] at h
  obtain ⟨h1, h2, h3, h4⟩ := h
  unfold allI
  rw [headI_good h1 h2, ptsI_good _ _ (begL_head T) h3, rtsI_good _ _ (begL_pts T _) h4, textT_eq]
/-! ### the walk -/
theorem WrR.le {B b N M : Nat} {bad : Bool} {F : List UInt8} {w : World} (h : WrR B b bad F N w) (hN : N ≤ M) : WrR B b bad F M w := by
  obtain ⟨l, h1, h2, h3⟩ := h
  exact ⟨l, h1, by omega, h3⟩
theorem numP_any {B b N : Nat} {bad : Bool} {F : List UInt8} {w0 w : World} (h : WrR B b bad F N w) (hP : PC B w0 w) (hN : N ≤ 10000000) (word : ByteArray) (hw : word.size ≤ 20) (n : Int) (hn : i64ok n) :
    Calls Tryz.prog 43 #[.pointer (some ⟨b, 0, none⟩), .string word, .int .i64 n] w fun e w' => e = .returned (.tuple #[]) ∧ WrR B b (bad || offR n) (putW F [word.data.toList, Lib.itoa n]) (N + 50) w' ∧ Stp B b w w' := by
  refine (numR_any B b N bad F word n w h hN hw hn.1 hn.2 hP.tabW hP.glob hP.sz).mono ?_
  rintro e w' ⟨rfl, h1, h2, h3⟩
  exact ⟨rfl, h1, ⟨h2, h3⟩⟩
theorem endP_any {B b N : Nat} {bad : Bool} {F : List UInt8} {w0 w : World} (h : WrR B b bad F N w) (hP : PC B w0 w) (hN : N ≤ 10000000) :
    Calls Tryz.prog 44 #[.pointer (some ⟨b, 0, none⟩)] w fun e w' => e = .returned (.tuple #[]) ∧ WrR B b bad (F ++ [10]) (N + 1) w' ∧ Stp B b w w' := by
  refine (endR_any B b N bad F w h hN hP.sz).mono ?_
  rintro e w' ⟨rfl, h1, h2, h3⟩
  exact ⟨rfl, h1, ⟨h2, h3⟩⟩
theorem PC.blk {B t : Nat} {w0 w : World} {o : Obj} (h : PC B w0 w) (hb : w0.heap[t]? = some o) : w.heap[t]? = some o := tb_kept hb h.old
set_option maxHeartbeats 4000000 in
set_option maxRecDepth 100000 in
theorem long_no (v : Value) (T : Tab) (w : World) (hT : TabAt w v T) (hs : grS T T.rts.length ≤ 8000) :
    Calls Tryz.prog 45 #[v] w fun e w' => e = .returned (.bool false) ∧ Below w.heap.size w w' := by
  obtain ⟨⟨vp, vr, rfl, hP, hr⟩, _, _⟩ := hT
  obtain ⟨a, c, C0, rfl, hlc, hcm, _⟩ := hr.at_
  obtain ⟨⟨va, vc, rfl, hvl, hvm, _⟩, _⟩ := id hP
  have HR := Lib.hid hr
  obtain ⟨w1, hw1⟩ : ∃ w1, w1 = w.alloc (.cells #[.int .i64 T.tracks, .slice va T.pts.length vc, .int .i64 T.sigs, .slice a T.rts.length c] 25) := ⟨_, rfl⟩
  have B1 : Hid (Below w.heap.size w w1) := by rw [hw1]; exact tb_alloc_below _ _
  have K1 : Hid (w1.heap[w.heap.size]? = some (.cells #[.int .i64 T.tracks, .slice va T.pts.length vc, .int .i64 T.sigs, .slice a T.rts.length c] 25 (0, 0))) := by rw [hw1]; exact heap_alloc_new _ _
  have HW1 := Lib.hid hw1
  clear hw1 hP hr hlc hcm hvl hvm
  obtain ⟨s, hsd⟩ : ∃ s : Nat → Nat, s = grS T := ⟨_, rfl⟩
  rw [← hsd] at hs
  have H0 : s 0 = T.pts.length + T.rts.length := by rw [hsd]; rfl
  have HM : Hid (∀ i j, i ≤ j → s i ≤ s j) := fun i j h => by rw [hsd]; exact grS_mono T h
  have HN : Hid (∀ k, s (k + 1) = s k + (T.rts.getD k rt0).tr.length + (T.rts.getD k rt0).pts.length + (T.rts.getD k rt0).con.length) := fun k => by rw [hsd]; rfl
  clear hsd
  have h0m := HM.out 0 T.rts.length (Nat.zero_le _)
  generalize hlen : T.rts.length = m at *
  have HLEN := Lib.hid hlen
  clear hlen
  have hm8 : m ≤ 8000 := by omega
  have c1 := cell_row (j := 1) K1.out rfl
  have c3 := cell_row (j := 3) K1.out rfl
  have l1 := heap_lt K1.out
  go_enter Tryz.func45, Tryz.ntmps45
  go_upto_region 1 with fail
  rw [← HW1.out]
  go_upto_region 2 with fail
  rw [show ((T.pts.length : Nat) : Int) + (m : Int) = ((s 0 : Nat) : Int) from by rw [H0]; exact (Int.natCast_add _ _).symm]
  clear H0
  go_wp2_with fail
  clear c1 c3 l1
  go_loopw [3, 16] (fun n i wr => ∃ k : Nat, k ≤ m ∧ i = .int .i64 (k : Int) ∧ n = .int .i64 ((s k : Nat) : Int) ∧ Hid (Below w1.heap.size w1 wr)) (fun _ i _ => m - (intOf i).toNat)
  case atStart => exact ⟨0, Nat.zero_le _, rfl, rfl, Below.refl _ _⟩
  case round =>
    obtain ⟨k, hk, rfl, rfl, BR⟩ := hrel
    have K2 := Lib.hid (tb_kept K1.out BR.out)
    rcases Nat.lt_or_ge k m with hlt | hge
    · obtain ⟨b, off, C, rfl, hb, hc, hR⟩ := HR.out.cells (i := k) (by rw [HLEN.out]; exact hlt)
      obtain ⟨r, hrr⟩ : ∃ r, r = T.rts.getD k rt0 := ⟨_, rfl⟩
      have HN1 := HN.out k
      have hm1 := HM.out (k + 1) m (by omega)
      rw [← hrr] at hR HN1
      have HN2 := Lib.hid HN1
      have q1 : s k + r.tr.length ≤ 8000 := by omega
      have q2 : s k + r.pts.length ≤ 8000 := by omega
      have q3 : s k + r.tr.length + r.pts.length + r.con.length ≤ 8000 := by omega
      clear hrr HN1 hm1
      obtain ⟨⟨ta, tc, htr, _⟩, _⟩ := hR.tr
      obtain ⟨⟨pa, pc, hp, _⟩, _⟩ := hR.pts
      obtain ⟨⟨ca, cc, hcn, _⟩, _⟩ := hR.con
      have e1 : ∀ p, p.block < w.heap.size → wr.cell? p = w.cell? p := fun p hp => by rw [BR.out.cell (Nat.lt_of_lt_of_le hp B1.out.size), B1.out.cell hp]
      have hx0 : wr.cell? ⟨b, off + k * 6, none⟩ = some (.int .i64 r.sig) := by rw [e1 _ hb, ← hR.sig]; exact hc 0 (by omega)
      have hx1 : wr.cell? ⟨b, off + k * 6 + 1, none⟩ = some (.slice ta r.tr.length tc) := by rw [e1 _ hb, ← htr]; exact hc 1 (by omega)
      have hx2 : wr.cell? ⟨b, off + k * 6 + 2, none⟩ = some (.slice pa r.pts.length pc) := by rw [e1 _ hb, ← hp]; exact hc 2 (by omega)
      have hx3 : wr.cell? ⟨b, off + k * 6 + 3, none⟩ = some (.int .i64 r.app) := by rw [e1 _ hb, ← hR.app]; exact hc 3 (by omega)
      have hx4 : wr.cell? ⟨b, off + k * 6 + 4, none⟩ = some (.slice ca r.con.length cc) := by rw [e1 _ hb, ← hcn]; exact hc 4 (by omega)
      have hx5 : wr.cell? ⟨b, off + k * 6 + 5, none⟩ = some (.int .u16 (r.hold : Int)) := by rw [e1 _ hb, ← hR.hold]; exact hc 5 (by omega)
      have hbl : b < wr.heap.size := Nat.lt_of_lt_of_le hb (Nat.le_trans B1.out.size BR.out.size)
      clear e1 hc hR htr hp hcn hb
      have HB4 : Hid (Below w1.heap.size w1 (wr.alloc (.cells #[.int .i64 r.sig, .slice ta r.tr.length tc, .slice pa r.pts.length pc, .int .i64 r.app, .slice ca r.con.length cc, .int .u16 (r.hold : Int)] 30))) := BR.out.alloc BR.out.size _
      have t1 : decide ((k : Int) < (m : Int)) = true := decide_eq_true (by omega)
      go_wp2_with fail
      go_roundw
      case rel => exact ⟨k + 1, by omega, rfl, by rw [HN2.out]; first | rfl | go_num, HB4.out⟩
      case measure => simp [intOf]; omega
    · have hkm : k = m := by omega
      subst hkm
      have t1 : decide ((k : Int) < (k : Int)) = false := by simp
      have t2 : decide ((8000 : Int) < ((s k : Nat) : Int)) = false := decide_eq_false (by omega)
      go_wp2_with fail
      go_ret
      exact ⟨rfl, B1.out.trans (BR.out.mono B1.out.size)⟩
end Go.Proofs.YtpodedhnlicckaaGreatDoor
