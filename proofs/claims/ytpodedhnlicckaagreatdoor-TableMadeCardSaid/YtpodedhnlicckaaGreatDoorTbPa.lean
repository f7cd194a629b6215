/- Parse. -/
import Derived.Test.YtpodedhnlicckaaGreatDoorTbLz
namespace Go.Proofs.YtpodedhnlicckaaGreatDoor
open Go.Shelf Go.RowKit Go.Sort
set_option linter.unusedVariables false
set_option linter.unusedSimpArgs false
theorem line_any (C tb n : Nat) (T : Tab) (s : ByteArray) (w : World) (hT : TM C tb T w) (hs : s.size ≤ 8000) (hM : MaxW w) (hC : C ≤ w.heap.size) (hn2 : n ≤ 1000000) (hp : T.pts.length ≤ 1000000) (hr : T.rts.length ≤ 1000000) :
    Calls Tryz.prog 32 #[.pointer (some ⟨tb, 0, none⟩), .int .i64 (n : Int), .string s] w (LineP C tb T n s.data.toList w) := by
  match n, hn2 with
  | 0, _ => exact line0_any C tb T s w hT hs hM hC
  | 1, _ => exact line1_any C tb T s w hT hs hM hC
  | n + 2, hn2 =>
    by_cases h : (partL 32 s.data.toList).head? = some wPt ∧ T.rts = []
    · exact lineP_any C tb (n + 2) T s w hT hs hM hC (by omega) hn2 hp h.2 h.1
    · exact lineR_any C tb (n + 2) T s w hT hs hM hC (by omega) hn2 hr h
def strN (v : Value) : Nat := match v with | .string s => s.size | _ => 0
def ParseP (R : Tab × Nat × Nat) (w : World) (e : Ending) (w' : World) : Prop := (∃ v, e = .returned (.tuple #[v, .int .i64 (R.2.1 : Int), .int .i64 (R.2.2 : Int)]) ∧ TabAt w' v R.1) ∧ Below w.heap.size w w'
theorem tab0_at (w : World) : TabAt w (.agg #[.int .i64 0, .slice none 0 0, .int .i64 0, .slice none 0 0]) tab0 :=
  ⟨⟨_, _, rfl, ⟨⟨none, 0, rfl, Nat.le_refl _, by unfold maxLen; omega, .inl rfl⟩, fun i hi => absurd hi (by show ¬ i < 0; omega)⟩, ⟨none, 0, fun _ _ => undef, rfl, Nat.le_refl _, by unfold maxLen; omega, .inl rfl, fun i hi => absurd hi (by show ¬ i < 0; omega)⟩⟩, ⟨by show (-9223372036854775808 : Int) ≤ 0; omega, by show (0 : Int) ≤ _; omega⟩, ⟨by show (-9223372036854775808 : Int) ≤ 0; omega, by show (0 : Int) ≤ _; omega⟩⟩
theorem tm0 (w : World) : TM w.heap.size w.heap.size tab0 (w.alloc (.cells #[.int .i64 0, .slice none 0 0, .int .i64 0, .slice none 0 0] 25)) :=
  ⟨Nat.le_refl _, ⟨.slice none 0 0, .slice none 0 0, [], heap_alloc_new _ _, ⟨rfl, .inl ⟨rfl, rfl⟩⟩, ⟨rfl, .inl ⟨rfl, rfl⟩⟩, rfl, fun z hz => by cases hz⟩, ⟨by show (-9223372036854775808 : Int) ≤ 0; omega, by show (0 : Int) ≤ _; omega⟩, ⟨by show (-9223372036854775808 : Int) ≤ 0; omega, by show (0 : Int) ≤ _; omega⟩, fun x hx => by cases hx⟩
theorem step_len {T T' : Tab} {n : Nat} {l : List UInt8} (h : stepT T n l = some T') : T'.pts.length ≤ T.pts.length + 1 ∧ T'.rts.length ≤ T.rts.length + 1 := by
  unfold stepT at h
  split at h
  · obtain ⟨x, _, rfl⟩ := Option.map_eq_some_iff.1 h; exact ⟨Nat.le_succ _, Nat.le_succ _⟩
  split at h
  · obtain ⟨x, _, rfl⟩ := Option.map_eq_some_iff.1 h; exact ⟨Nat.le_succ _, Nat.le_succ _⟩
  split at h
  · obtain ⟨x, _, rfl⟩ := Option.map_eq_some_iff.1 h; exact ⟨by simp, Nat.le_succ _⟩
  · obtain ⟨x, _, rfl⟩ := Option.map_eq_some_iff.1 h; exact ⟨Nat.le_succ _, by simp⟩
theorem split10 (l : List UInt8) : 10 ∉ l ∨ ∃ p r, l = p ++ 10 :: r ∧ 10 ∉ p := by
  rcases index_cases l 10 with ⟨_, h⟩ | ⟨p, r, h1, h2, _⟩
  · exact .inl h
  · exact .inr ⟨p, r, h1, h2⟩
theorem TM.only {C tb : Nat} {T : Tab} {w w' : World} {M : Nat → Prop} (h : TM C tb T w) (ho : Only M w w') (hM : ∀ i, C ≤ i → ¬ M i) : TM C tb T w' := by
  obtain ⟨vp, vr, zs, h1, h2, h3, h4, h5⟩ := h.at_
  have K : ∀ {e sz n : Nat} {v : Value} {xs : List Value}, w.ownsRow C e sz v n xs → ∀ k, v.ownBlock = some k → ¬ M k := fun h k hk => hM k (h.lt k hk).1
  exact ⟨h.low, ⟨vp, vr, zs, (ho.block tb (heap_lt h1) (hM tb h.low)).trans h1, tb_own h2 ho (K h2), tb_own h3 ho (K h3), h4, fun z hz => (h5 z hz).only ho (K (h5 z hz).tr) (K (h5 z hz).pts) (K (h5 z hz).con)⟩, h.tk, h.sg, h.ps⟩
theorem TM.tabAt {C tb : Nat} {T : Tab} {w : World} {vp vr : Value} (h : TM C tb T w) (hc : w.heap[tb]? = some (.cells #[.int .i64 T.tracks, vp, .int .i64 T.sigs, vr] 25 (0, 0))) : TabAt w (.agg #[.int .i64 T.tracks, vp, .int .i64 T.sigs, vr]) T := by
  obtain ⟨vp', vr', hc', htab⟩ := h.tab
  rw [hc] at hc'
  injection hc' with e
  injection e with e _ _
  injection e with e
  injection e with _ e
  injection e with e1 e
  injection e with _ e
  injection e with e2 _
  subst e1; subst e2
  exact htab
theorem set4 {w : World} {rk : Nat} {t : TypeId} {a b c d a' b' c' d' : Value} (h : w.heap[rk]? = some (.cells #[a, b, c, d] t (0, 0))) :
    ((((w.setCell ⟨rk, 0, none⟩ a').setCell ⟨rk, 1, none⟩ b').setCell ⟨rk, 2, none⟩ c').setCell ⟨rk, 3, none⟩ d').heap[rk]? = some (.cells #[a', b', c', d'] t (0, 0)) ∧
    Only (fun i => i = rk) w ((((w.setCell ⟨rk, 0, none⟩ a').setCell ⟨rk, 1, none⟩ b').setCell ⟨rk, 2, none⟩ c').setCell ⟨rk, 3, none⟩ d') :=
  ⟨heap_setCell_same _ _ _ _ _ _ (heap_setCell_same _ _ _ _ _ _ (heap_setCell_same _ _ _ _ _ _ (heap_setCell_same _ _ _ _ _ _ h))), ((((Only.refl (fun i => i = rk) w).set 0 _ (.inr rfl)).set 1 _ (.inr rfl)).set 2 _ (.inr rfl)).set 3 _ (.inr rfl)⟩
set_option maxHeartbeats 8000000 in
set_option maxRecDepth 100000 in
theorem parse_any (s : ByteArray) (w : World) (hs : s.size ≤ 9223372036854775807) (hM : MaxW w) :
    Calls Tryz.prog 10 #[.string s] w (ParseP (parseT s.data.toList) w) := by
  by_cases hbig : 8000 < s.size
  · have t1 : decide ((8000 : Int) < (s.size : Int)) = true := decide_eq_true (by omega)
    have HR : Hid (parseT s.data.toList = (tab0, 0, 3)) := by show _ = _; unfold parseT; rw [if_pos (by rw [size_list]; exact hbig)]
    have HB : Hid (Below w.heap.size w (w.alloc (.cells #[.int .i64 0, .slice none 0 0, .int .i64 0, .slice none 0 0] 25))) := tb_alloc_below _ _
    go_enter Tryz.func10, Tryz.ntmps10
    go_wp2_with fail
    exact bodyPost_ret (v := .tuple #[.agg #[.int .i64 0, .slice none 0 0, .int .i64 0, .slice none 0 0], .int .i64 0, .int .i64 3]) (by simp [results, Tryz.results10, go_sem]) rfl ⟨⟨_, by rw [HR.out]; rfl, by rw [HR.out]; exact tab0_at _⟩, HB.out⟩
  have t1 : decide ((8000 : Int) < (s.size : Int)) = false := decide_eq_false (by omega)
  have HR : Hid (parseT s.data.toList = parT 0 tab0 (partL 10 s.data.toList)) := by show _ = _; unfold parseT; rw [if_neg (by rw [size_list]; exact hbig)]
  have hsm : s.size ≤ 8000 := by omega
  obtain ⟨w1, hw1⟩ : ∃ w1, w1 = w.alloc (.cells #[.int .i64 0, .slice none 0 0, .int .i64 0, .slice none 0 0] 25) := ⟨_, rfl⟩
  have B1 : Hid (Below w.heap.size w w1) := by rw [hw1]; exact tb_alloc_below _ _
  have RK1 : Hid (w1.heap[w.heap.size]? = some (.cells #[.int .i64 0, .slice none 0 0, .int .i64 0, .slice none 0 0] 25 (0, 0))) := by rw [hw1]; exact heap_alloc_new _ _
  have HW1 := Lib.hid hw1
  have HM1 := Lib.hid (hM.below B1.out)
  clear hw1 hM hbig
  go_enter Tryz.func10, Tryz.ntmps10
  go_upto_region 3 with fail
  rw [← HW1.out]
  obtain ⟨rk, hrk⟩ : ∃ rk, rk = w.heap.size := ⟨_, rfl⟩
  rw [← hrk] at RK1 ⊢
  have HRKE := Lib.hid hrk
  clear hrk HW1
  have HT2 := Lib.hid (tm0 w1)
  have HB2 : Hid (Below w1.heap.size w1 (w1.alloc (.cells #[.int .i64 0, .slice none 0 0, .int .i64 0, .slice none 0 0] 25))) := tb_alloc_below _ _
  obtain ⟨C, hC⟩ : ∃ C, C = w1.heap.size := ⟨_, rfl⟩
  rw [← hC] at HT2 HB2
  have HCE := Lib.hid hC
  have HRK : Hid (rk < C) := by have := heap_lt RK1.out; show _ < _; omega
  go_upto_region 4 with fail
  rw [← hC]
  clear hC
  generalize w1.alloc (.cells #[.int .i64 0, .slice none 0 0, .int .i64 0, .slice none 0 0] 25) = w2 at *
  generalize parseT s.data.toList = R at *
  go_wp2_with fail
  go_loopw [0, 6] (fun v i wr => ∃ (k : Nat) (T : Tab) (r : ByteArray), v = .string r ∧ i = .int .i64 (k : Int) ∧ Hid (R = parT k T (partL 10 r.data.toList)) ∧ Hid (TM C C T wr) ∧ Hid (Below C w1 wr) ∧ k + r.size ≤ 8000 ∧ T.pts.length ≤ k ∧ T.rts.length ≤ k) (fun v _ _ => strN v)
  case atStart => exact ⟨0, tab0, s, rfl, rfl, HR, HT2, HB2, by omega, Nat.le_refl _, Nat.le_refl _⟩
  case round =>
    clear HR HT2 HB2
    obtain ⟨k, T, r, rfl, rfl, HR, HT, HB, hk, hp, hr⟩ := hrel
    have RKr : Hid (wr.heap[rk]? = some (.cells #[.int .i64 0, .slice none 0 0, .int .i64 0, .slice none 0 0] 25 (0, 0))) := (HB.out.block rk HRK.out).trans RK1.out
    have HBF : Hid (Below w.heap.size w wr) := B1.out.trans (HB.out.mono (by rw [HCE.out]; exact B1.out.size))
    have hrl := heap_lt RKr.out
    by_cases hend : 2 ≤ k ∧ r.size = 0
    · obtain ⟨hk2, hr0⟩ := hend
      have te := empty_is hr0
      have hrd : r.data.toList = [] := by rw [← size_list] at hr0; exact List.eq_nil_of_length_eq_zero hr0
      have HE : Hid (R = (T, 0, 0)) := by show _ = _; rw [HR.out, hrd]; show parT k T [[]] = _; rw [parT_one, if_pos ⟨hk2, rfl⟩]
      have t2 : decide ((k : Int) < 2) = false := decide_eq_false (by omega)
      obtain ⟨vp, vr, hc, htab⟩ := HT.out.tab
      have HTB := Lib.hid htab; have HCT := Lib.hid hc
      obtain ⟨⟨ip, ic, hvp, _⟩, _⟩ := (by obtain ⟨⟨vp', vr', e, h, _⟩, _⟩ := htab; injection e with e; injection e with e; injection e with _ e; injection e with e1 e; subst e1; exact h : IntsAt wr vp T.pts)
      obtain ⟨jp, jc, JC, hvr, _⟩ := (by obtain ⟨⟨vp', vr', e, _, h⟩, _⟩ := htab; injection e with e; injection e with e; injection e with _ e; injection e with _ e; injection e with _ e; injection e with e1 e; subst e1; exact h : RtsAt wr vr T.rts).at_
      subst hvp; subst hvr
      have c0 := cell_row (j := 0) hc rfl; have c1 := cell_row (j := 1) hc rfl; have c2 := cell_row (j := 2) hc rfl; have c3 := cell_row (j := 3) hc rfl
      -- the result is a table of nothing
      have hB0 := cell_row (j := 0) RKr.out rfl; have hB1 := cell_row (j := 1) RKr.out rfl; have hB2 := cell_row (j := 2) RKr.out rfl; have hB3 := cell_row (j := 3) RKr.out rfl
      have gB0 : wr.frozen? ⟨rk, 0, none⟩ = false := frozen_of_row _ _ _ _ _ RKr.out
      have gB1 : wr.frozen? ⟨rk, 1, none⟩ = false := frozen_of_row _ _ _ _ _ RKr.out
      have gB2 : wr.frozen? ⟨rk, 2, none⟩ = false := frozen_of_row _ _ _ _ _ RKr.out
      have gB3 : wr.frozen? ⟨rk, 3, none⟩ = false := frozen_of_row _ _ _ _ _ RKr.out
      clear hc htab hrd hr0
      go_wp2_with fail
      have HS4 := Lib.hid (set4 (a' := .int .i64 T.tracks) (b' := .slice ip T.pts.length ic) (c' := .int .i64 T.sigs) (d' := .slice jp T.rts.length jc) RKr.out)
      have HCC : Hid (wr.heap[C]? = some (.cells #[.int .i64 T.tracks, .slice ip T.pts.length ic, .int .i64 T.sigs, .slice jp T.rts.length jc] 25 (0, 0))) := HCT.out
      clear hB0 hB1 hB2 hB3 gB0 gB1 gB2 gB3 c0 c1 c2 c3
      generalize (((wr.setCell ⟨rk, 0, none⟩ (.int .i64 T.tracks)).setCell ⟨rk, 1, none⟩ (.slice ip T.pts.length ic)).setCell ⟨rk, 2, none⟩ (.int .i64 T.sigs)).setCell ⟨rk, 3, none⟩ (.slice jp T.rts.length jc) = w5 at *
      have d0 := cell_row (j := 0) HS4.out.1 rfl; have d1 := cell_row (j := 1) HS4.out.1 rfl; have d2 := cell_row (j := 2) HS4.out.1 rfl; have d3 := cell_row (j := 3) HS4.out.1 rfl
      have HT5 : TM C C T w5 := HT.out.only HS4.out.2 (fun i hi e => by have := HRK.out; omega)
      have HC5 : w5.heap[C]? = _ := (HS4.out.2.block C (heap_lt HCC.out) (by have := HRK.out; omega)).trans HCC.out
      have HB5 : Below w.heap.size w w5 := HBF.out.trans (HS4.out.2.below HBF.out.size (fun i hi e => by have := HRKE.out; omega))
      exact bodyPost_ret (v := .tuple #[.agg #[.int .i64 T.tracks, .slice ip T.pts.length ic, .int .i64 T.sigs, .slice jp T.rts.length jc], .int .i64 0, .int .i64 0]) (by simp [results, Tryz.results10, go_sem, d0, d1, d2, d3]) rfl ⟨⟨_, by rw [HE.out]; rfl, by rw [HE.out]; exact HT5.tabAt HC5⟩, HB5⟩
    have HPN : Hid (∀ x : Tab × Nat × Nat, (if 2 ≤ k ∧ r.data.toList = [] then (T, 0, 0) else x) = x) := fun x => if_neg (fun h => hend ⟨h.1, by rw [← size_list, h.2]; rfl⟩)
    by_cases hk2 : k < 2
    · have t2 : decide ((k : Int) < 2) = true := decide_eq_true (by omega)
      clear hend hk2
      go_wp2_with fail
      refine (cut_any r wr (by omega) (HM1.out.below (HB.out.mono (Nat.le_of_eq HCE.out.symm)))).mono ?_
      rintro e w3 ⟨rfl, nd, hw3⟩
      have HB3 : Hid (Below wr.heap.size wr w3) := by show Below _ _ _; rw [hw3]; exact ⟨rfl, rfl, rfl, Nat.le_refl _, fun _ _ => rfl⟩
      clear hw3
      have HT3 := Lib.hid (HT.out.old HB3.out)
      have HBC : Hid (Below C w1 w3) := HB.out.trans (HB3.out.mono (by rw [HCE.out]; exact HB.out.size))
      have RK3 := Lib.hid (tb_kept RKr.out HB3.out)
      have HBF3 : Hid (Below w.heap.size w w3) := HBF.out.trans (HB3.out.mono HBF.out.size)
      have hr3 := heap_lt RK3.out
      clear HT HB HB3 RKr HBF hrl
      rcases split10 r.data.toList with hno | ⟨p, q, hpq, hno⟩
      · have HCU := cutL_miss hno
        have HE : Hid (R = (tab0, k + 1, 262)) := by show _ = _; rw [HR.out, partL_last 10 _ hno, parT_one, HPN.out]
        rw [HCU]
        clear HCU hno HPN
        -- the result is a table of nothing
        have hB0 := cell_row (j := 0) RK3.out rfl; have hB1 := cell_row (j := 1) RK3.out rfl; have hB2 := cell_row (j := 2) RK3.out rfl; have hB3 := cell_row (j := 3) RK3.out rfl
        have gB0 : w3.frozen? ⟨rk, 0, none⟩ = false := frozen_of_row _ _ _ _ _ RK3.out
        have gB1 : w3.frozen? ⟨rk, 1, none⟩ = false := frozen_of_row _ _ _ _ _ RK3.out
        have gB2 : w3.frozen? ⟨rk, 2, none⟩ = false := frozen_of_row _ _ _ _ _ RK3.out
        have gB3 : w3.frozen? ⟨rk, 3, none⟩ = false := frozen_of_row _ _ _ _ _ RK3.out
        go_wp2_with fail
        have HS4 := Lib.hid (set4 (a' := .int .i64 0) (b' := .slice none 0 0) (c' := .int .i64 0) (d' := .slice none 0 0) RK3.out)
        clear hB0 hB1 hB2 hB3 gB0 gB1 gB2 gB3
        generalize (((w3.setCell ⟨rk, 0, none⟩ (.int .i64 0)).setCell ⟨rk, 1, none⟩ (.slice none 0 0)).setCell ⟨rk, 2, none⟩ (.int .i64 0)).setCell ⟨rk, 3, none⟩ (.slice none 0 0) = w5 at *
        have d0 := cell_row (j := 0) HS4.out.1 rfl; have d1 := cell_row (j := 1) HS4.out.1 rfl; have d2 := cell_row (j := 2) HS4.out.1 rfl; have d3 := cell_row (j := 3) HS4.out.1 rfl
        have HB5 : Below w.heap.size w w5 := HBF3.out.trans (HS4.out.2.below HBF3.out.size (fun i hi e => by have := HRKE.out; omega))
        exact bodyPost_ret (v := .tuple #[.agg #[.int .i64 0, .slice none 0 0, .int .i64 0, .slice none 0 0], .int .i64 ((k : Int) + 1), .int .i64 262]) (by simp [results, Tryz.results10, go_sem, d0, d1, d2, d3]) rfl ⟨⟨_, by rw [HE.out]; rfl, by rw [HE.out]; exact tab0_at _⟩, HB5⟩
      · have HCU := cutL_hit (r := q) hno
        rw [← hpq] at HCU
        have HPL : Hid (partL 10 r.data.toList = p :: partL 10 q) := by show _ = _; rw [hpq]; exact partL_front 10 p hno q
        have hsz : p.length + 1 + q.length = r.size := by rw [← size_list, hpq]; simp; omega
        rw [HCU]
        have hps : (bytesOf p).size ≤ 8000 := by rw [bytesOf_size]; omega
        have HQS : Hid ((bytesOf q).size = q.length) := bytesOf_size q
        have HQD : Hid ((bytesOf q).data.toList = q) := bytesOf_data q
        have HPD : Hid ((bytesOf p).data.toList = p) := bytesOf_data p
        have HLN := Lib.hid (line_any C C k T (bytesOf p) w3 HT3.out hps ((HM1.out.below (HBC.out.mono (Nat.le_of_eq HCE.out.symm)))) (by rw [HCE.out]; exact HBC.out.size) (by omega) (by omega) (by omega))
        clear HCU hpq hno hps HPN
        generalize bytesOf p = pb at *
        generalize bytesOf q = qb at *
        go_wp2_with fail
        refine HLN.out.mono ?_
        rintro e w4 ⟨⟨ok, rfl, hy, hn⟩, hb4⟩
        rw [HPD.out] at hy hn
        have RK4 : Hid (w4.heap[rk]? = some (.cells #[.int .i64 0, .slice none 0 0, .int .i64 0, .slice none 0 0] 25 (0, 0))) := (hb4.block rk HRK.out).trans RK3.out
        have HBC4 : Hid (Below C w1 w4) := HBC.out.trans hb4
        have HBF4 : Hid (Below w.heap.size w w4) := B1.out.trans (HBC4.out.mono (by rw [HCE.out]; exact B1.out.size))
        have hr4 := heap_lt RK4.out
        clear hb4 HLN RK3 HBC HBF3 HT3
        cases hst : stepT T k p with
        | none =>
          have hok := hn hst
          subst hok
          have HE : Hid (R = (tab0, k + 1, 262)) := by show _ = _; rw [HR.out, HPL.out, parT_no (partL_ne 10 q) hst]
          clear hy hn hst hsz
          -- the result is a table of nothing
          have hB0 := cell_row (j := 0) RK4.out rfl; have hB1 := cell_row (j := 1) RK4.out rfl; have hB2 := cell_row (j := 2) RK4.out rfl; have hB3 := cell_row (j := 3) RK4.out rfl
          have gB0 : w4.frozen? ⟨rk, 0, none⟩ = false := frozen_of_row _ _ _ _ _ RK4.out
          have gB1 : w4.frozen? ⟨rk, 1, none⟩ = false := frozen_of_row _ _ _ _ _ RK4.out
          have gB2 : w4.frozen? ⟨rk, 2, none⟩ = false := frozen_of_row _ _ _ _ _ RK4.out
          have gB3 : w4.frozen? ⟨rk, 3, none⟩ = false := frozen_of_row _ _ _ _ _ RK4.out
          go_wp2_with fail
          have HS4 := Lib.hid (set4 (a' := .int .i64 0) (b' := .slice none 0 0) (c' := .int .i64 0) (d' := .slice none 0 0) RK4.out)
          clear hB0 hB1 hB2 hB3 gB0 gB1 gB2 gB3
          generalize (((w4.setCell ⟨rk, 0, none⟩ (.int .i64 0)).setCell ⟨rk, 1, none⟩ (.slice none 0 0)).setCell ⟨rk, 2, none⟩ (.int .i64 0)).setCell ⟨rk, 3, none⟩ (.slice none 0 0) = w5 at *
          have d0 := cell_row (j := 0) HS4.out.1 rfl; have d1 := cell_row (j := 1) HS4.out.1 rfl; have d2 := cell_row (j := 2) HS4.out.1 rfl; have d3 := cell_row (j := 3) HS4.out.1 rfl
          have HB5 : Below w.heap.size w w5 := HBF4.out.trans (HS4.out.2.below HBF4.out.size (fun i hi e => by have := HRKE.out; omega))
          exact bodyPost_ret (v := .tuple #[.agg #[.int .i64 0, .slice none 0 0, .int .i64 0, .slice none 0 0], .int .i64 ((k : Int) + 1), .int .i64 262]) (by simp [results, Tryz.results10, go_sem, d0, d1, d2, d3]) rfl ⟨⟨_, by rw [HE.out]; rfl, by rw [HE.out]; exact tab0_at _⟩, HB5⟩
        | some T' =>
          obtain ⟨hok, htm⟩ := hy T' hst
          subst hok
          have HTM := Lib.hid htm
          have HRN : Hid (R = parT (k + 1) T' (partL 10 qb.data.toList)) := by show _ = _; rw [HR.out, HPL.out, HQD.out, parT_more (partL_ne 10 q) hst]
          obtain ⟨hl1, hl2⟩ := step_len hst
          have hqs : qb.size = q.length := HQS.out
          have hq2 : qb.size < r.size := by omega
          have hq3 : k + 1 + qb.size ≤ 8000 := by omega
          clear hy hn hst hsz htm hqs HPL HPD
          go_wp2_with fail
          go_roundw
          case rel => exact ⟨k + 1, T', qb, rfl, by go_num, HRN, HTM, HBC4, hq3, by omega, by omega⟩
          case measure => exact hq2
    · have t2 : decide ((k : Int) < 2) = false := decide_eq_false (by omega)
      have te := empty_no (s := r) (by omega)
      clear hend hk2
      go_wp2_with fail
      refine (cut_any r wr (by omega) (HM1.out.below (HB.out.mono (Nat.le_of_eq HCE.out.symm)))).mono ?_
      rintro e w3 ⟨rfl, nd, hw3⟩
      have HB3 : Hid (Below wr.heap.size wr w3) := by show Below _ _ _; rw [hw3]; exact ⟨rfl, rfl, rfl, Nat.le_refl _, fun _ _ => rfl⟩
      clear hw3
      have HT3 := Lib.hid (HT.out.old HB3.out)
      have HBC : Hid (Below C w1 w3) := HB.out.trans (HB3.out.mono (by rw [HCE.out]; exact HB.out.size))
      have RK3 := Lib.hid (tb_kept RKr.out HB3.out)
      have HBF3 : Hid (Below w.heap.size w w3) := HBF.out.trans (HB3.out.mono HBF.out.size)
      have hr3 := heap_lt RK3.out
      clear HT HB HB3 RKr HBF hrl
      rcases split10 r.data.toList with hno | ⟨p, q, hpq, hno⟩
      · have HCU := cutL_miss hno
        have HE : Hid (R = (tab0, k + 1, 262)) := by show _ = _; rw [HR.out, partL_last 10 _ hno, parT_one, HPN.out]
        rw [HCU]
        clear HCU hno HPN
        -- the result is a table of nothing
        have hB0 := cell_row (j := 0) RK3.out rfl; have hB1 := cell_row (j := 1) RK3.out rfl; have hB2 := cell_row (j := 2) RK3.out rfl; have hB3 := cell_row (j := 3) RK3.out rfl
        have gB0 : w3.frozen? ⟨rk, 0, none⟩ = false := frozen_of_row _ _ _ _ _ RK3.out
        have gB1 : w3.frozen? ⟨rk, 1, none⟩ = false := frozen_of_row _ _ _ _ _ RK3.out
        have gB2 : w3.frozen? ⟨rk, 2, none⟩ = false := frozen_of_row _ _ _ _ _ RK3.out
        have gB3 : w3.frozen? ⟨rk, 3, none⟩ = false := frozen_of_row _ _ _ _ _ RK3.out
        go_wp2_with fail
        have HS4 := Lib.hid (set4 (a' := .int .i64 0) (b' := .slice none 0 0) (c' := .int .i64 0) (d' := .slice none 0 0) RK3.out)
        clear hB0 hB1 hB2 hB3 gB0 gB1 gB2 gB3
        generalize (((w3.setCell ⟨rk, 0, none⟩ (.int .i64 0)).setCell ⟨rk, 1, none⟩ (.slice none 0 0)).setCell ⟨rk, 2, none⟩ (.int .i64 0)).setCell ⟨rk, 3, none⟩ (.slice none 0 0) = w5 at *
        have d0 := cell_row (j := 0) HS4.out.1 rfl; have d1 := cell_row (j := 1) HS4.out.1 rfl; have d2 := cell_row (j := 2) HS4.out.1 rfl; have d3 := cell_row (j := 3) HS4.out.1 rfl
        have HB5 : Below w.heap.size w w5 := HBF3.out.trans (HS4.out.2.below HBF3.out.size (fun i hi e => by have := HRKE.out; omega))
        exact bodyPost_ret (v := .tuple #[.agg #[.int .i64 0, .slice none 0 0, .int .i64 0, .slice none 0 0], .int .i64 ((k : Int) + 1), .int .i64 262]) (by simp [results, Tryz.results10, go_sem, d0, d1, d2, d3]) rfl ⟨⟨_, by rw [HE.out]; rfl, by rw [HE.out]; exact tab0_at _⟩, HB5⟩
      · have HCU := cutL_hit (r := q) hno
        rw [← hpq] at HCU
        have HPL : Hid (partL 10 r.data.toList = p :: partL 10 q) := by show _ = _; rw [hpq]; exact partL_front 10 p hno q
        have hsz : p.length + 1 + q.length = r.size := by rw [← size_list, hpq]; simp; omega
        rw [HCU]
        have hps : (bytesOf p).size ≤ 8000 := by rw [bytesOf_size]; omega
        have HQS : Hid ((bytesOf q).size = q.length) := bytesOf_size q
        have HQD : Hid ((bytesOf q).data.toList = q) := bytesOf_data q
        have HPD : Hid ((bytesOf p).data.toList = p) := bytesOf_data p
        have HLN := Lib.hid (line_any C C k T (bytesOf p) w3 HT3.out hps ((HM1.out.below (HBC.out.mono (Nat.le_of_eq HCE.out.symm)))) (by rw [HCE.out]; exact HBC.out.size) (by omega) (by omega) (by omega))
        clear HCU hpq hno hps HPN
        generalize bytesOf p = pb at *
        generalize bytesOf q = qb at *
        go_wp2_with fail
        refine HLN.out.mono ?_
        rintro e w4 ⟨⟨ok, rfl, hy, hn⟩, hb4⟩
        rw [HPD.out] at hy hn
        have RK4 : Hid (w4.heap[rk]? = some (.cells #[.int .i64 0, .slice none 0 0, .int .i64 0, .slice none 0 0] 25 (0, 0))) := (hb4.block rk HRK.out).trans RK3.out
        have HBC4 : Hid (Below C w1 w4) := HBC.out.trans hb4
        have HBF4 : Hid (Below w.heap.size w w4) := B1.out.trans (HBC4.out.mono (by rw [HCE.out]; exact B1.out.size))
        have hr4 := heap_lt RK4.out
        clear hb4 HLN RK3 HBC HBF3 HT3
        cases hst : stepT T k p with
        | none =>
          have hok := hn hst
          subst hok
          have HE : Hid (R = (tab0, k + 1, 262)) := by show _ = _; rw [HR.out, HPL.out, parT_no (partL_ne 10 q) hst]
          clear hy hn hst hsz
          -- the result is a table of nothing
          have hB0 := cell_row (j := 0) RK4.out rfl; have hB1 := cell_row (j := 1) RK4.out rfl; have hB2 := cell_row (j := 2) RK4.out rfl; have hB3 := cell_row (j := 3) RK4.out rfl
          have gB0 : w4.frozen? ⟨rk, 0, none⟩ = false := frozen_of_row _ _ _ _ _ RK4.out
          have gB1 : w4.frozen? ⟨rk, 1, none⟩ = false := frozen_of_row _ _ _ _ _ RK4.out
          have gB2 : w4.frozen? ⟨rk, 2, none⟩ = false := frozen_of_row _ _ _ _ _ RK4.out
          have gB3 : w4.frozen? ⟨rk, 3, none⟩ = false := frozen_of_row _ _ _ _ _ RK4.out
          go_wp2_with fail
          have HS4 := Lib.hid (set4 (a' := .int .i64 0) (b' := .slice none 0 0) (c' := .int .i64 0) (d' := .slice none 0 0) RK4.out)
          clear hB0 hB1 hB2 hB3 gB0 gB1 gB2 gB3
          generalize (((w4.setCell ⟨rk, 0, none⟩ (.int .i64 0)).setCell ⟨rk, 1, none⟩ (.slice none 0 0)).setCell ⟨rk, 2, none⟩ (.int .i64 0)).setCell ⟨rk, 3, none⟩ (.slice none 0 0) = w5 at *
          have d0 := cell_row (j := 0) HS4.out.1 rfl; have d1 := cell_row (j := 1) HS4.out.1 rfl; have d2 := cell_row (j := 2) HS4.out.1 rfl; have d3 := cell_row (j := 3) HS4.out.1 rfl
          have HB5 : Below w.heap.size w w5 := HBF4.out.trans (HS4.out.2.below HBF4.out.size (fun i hi e => by have := HRKE.out; omega))
          exact bodyPost_ret (v := .tuple #[.agg #[.int .i64 0, .slice none 0 0, .int .i64 0, .slice none 0 0], .int .i64 ((k : Int) + 1), .int .i64 262]) (by simp [results, Tryz.results10, go_sem, d0, d1, d2, d3]) rfl ⟨⟨_, by rw [HE.out]; rfl, by rw [HE.out]; exact tab0_at _⟩, HB5⟩
        | some T' =>
          obtain ⟨hok, htm⟩ := hy T' hst
          subst hok
          have HTM := Lib.hid htm
          have HRN : Hid (R = parT (k + 1) T' (partL 10 qb.data.toList)) := by show _ = _; rw [HR.out, HPL.out, HQD.out, parT_more (partL_ne 10 q) hst]
          obtain ⟨hl1, hl2⟩ := step_len hst
          have hqs : qb.size = q.length := HQS.out
          have hq2 : qb.size < r.size := by omega
          have hq3 : k + 1 + qb.size ≤ 8000 := by omega
          clear hy hn hst hsz htm hqs HPL HPD
          go_wp2_with fail
          go_roundw
          case rel => exact ⟨k + 1, T', qb, rfl, by go_num, HRN, HTM, HBC4, hq3, by omega, by omega⟩
          case measure => exact hq2
end Go.Proofs.YtpodedhnlicckaaGreatDoor
