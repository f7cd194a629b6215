/- Read of the document: what a log's data tell. -/
import Derived.Test.YtdlpgoackmgdkaaGreatDoorDiK
namespace Go.Proofs.YtdlpgoackmgdkaaGreatDoor
open Go.RowKit Go.Shelf
set_option linter.unusedVariables false
set_option linter.unusedSimpArgs false
/-- What the document's Read gives. -/
def RdT (l : List Int) (m s : Nat) (d : Nat → Nat) (e : Ending) (w' : World) : Prop :=
  if chsOk m s d then ∃ a c, e = .returned (.tuple #[.slice a (kOf s d) c, .int .u32 (wordD d 0 : Int), .bool true]) ∧ ChAt w' a l (chs m s d)
  else e = .returned (.tuple #[.slice none 0 0, .int .u32 0, .bool false])
set_option maxRecDepth 100000 in
set_option maxHeartbeats 16000000 in
theorem rread29_any (l : List Int) (ia : Option Addr) (ic base : Nat) (size port : Int) (da : Option Addr) (len dc : Nat) (d : Nat → Nat) (w : World) (hA : IlAt w ia l) (hm : l.length ≤ 9223372036854775807) (hb0 : base < 4294967296) (hmay : mayD l base size port = true) (hD : DbAt w da len d) (hd : ∀ j, d j < 256) (hlen : bytesN l.length size ≤ len) (hl : len ≤ dc) (hdc : dc ≤ 9223372036854775807) :
    Calls Tryz.prog 30 #[.agg #[.slice ia l.length ic, .int .u32 (base : Int), .int .i64 size, .int .i64 port], .slice da len dc] w fun e w' => RdT l l.length size.toNat d e w' ∧ Below w.heap.size w w' := by
  obtain ⟨i0, hi, hz0, hz1, hz2⟩ := info_parts (show (Tryz.prog.info? 127).map (fun i => (i.zero, i.size, i.bytes)) = some (some (.agg #[.int .i64 0, .int .u32 0]), 2, 16) by kernel_rfl)
  have HIn := Lib.hid hi; have HZ0 := Lib.hid hz0; have HZ1 := Lib.hid hz1; have HZ2 := Lib.hid hz2
  clear hi hz0 hz1 hz2
  obtain ⟨hG, hsz, hins, hp1, hp2, hbn⟩ := mayD_ok hmay
  obtain ⟨s, hs⟩ : ∃ s, s = size.toNat := ⟨_, rfl⟩
  rw [← hs] at hsz ⊢
  subst hsz
  have hG1 := hG.m16; have hG2 := hG.sm; have hG3 := hG.s1; have hG4 := hG.m1
  have hgm : (lgOf l base (s : Int) port).m = l.length := by unfold lgOf LG.m; simp
  have hgs : (lgOf l base (s : Int) port).size = s := rfl
  rw [hgm] at hG1 hG4
  rw [hgs] at hG2 hG3
  have hnb : bytesN l.length (s : Int) = 4 * (1 + l.length + 2 * s) := rfl
  have HA := Lib.hid hA; have HD := Lib.hid hD; have HDD := Lib.hid hd
  obtain ⟨m, hmm⟩ : ∃ m, m = l.length := ⟨_, rfl⟩
  rw [← hmm] at hG1 hG4 hnb hlen ⊢
  have HM := Lib.hid hmm
  have hnb1 : 4 + 4 * m + 8 * s ≤ len := by omega
  have hcnt := word_lt d hd 0
  have HCN : Hid (kOf s d = min (wordD d 0) s) := rfl
  have HGOOD := Lib.hid (fun h => chs_good (m := m) (s := s) (d := d) h)
  have HBAD := Lib.hid (fun t ht h => chs_bad (m := m) (s := s) (d := d) (t := t) ht h)
  have HGET := Lib.hid (fun t ht => chs_get (m := m) (s := s) (d := d) (t := t) ht)
  have HLEN := Lib.hid (chs_len m s d)
  obtain ⟨PE, hPE⟩ : ∃ P : Ending → World → Prop, P = RdT l m s d := ⟨_, rfl⟩
  rw [← hPE]
  have HPE : Hid (∀ e w', PE e w' ↔ if chsOk m s d then ∃ a c, e = .returned (.tuple #[.slice a (kOf s d) c, .int .u32 (wordD d 0 : Int), .bool true]) ∧ ChAt w' a l (chs m s d) else e = .returned (.tuple #[.slice none 0 0, .int .u32 0, .bool false])) := fun e w' => by rw [hPE]; exact Iff.rfl
  obtain ⟨w1, hw1⟩ : ∃ x, x = w.alloc (.cells #[.slice ia m ic, .int .u32 (base : Int), .int .i64 (s : Int), .int .i64 port] 57) := ⟨_, rfl⟩
  have B2 : Hid (Below w.heap.size w w1) := by rw [hw1]; exact alloc_below _ _
  have K2 : Hid (w1.heap[w.heap.size]? = some (.cells #[.slice ia m ic, .int .u32 (base : Int), .int .i64 (s : Int), .int .i64 port] 57 (0, 0))) := by
    rw [hw1]; exact heap_alloc_new _ _
  have HW1 := Lib.hid hw1
  obtain ⟨g, hg⟩ : ∃ g, g = w.heap.size := ⟨_, rfl⟩
  rw [← hg] at K2
  have HGx := Lib.hid hg
  have HWD : Hid (∀ (W : World) (at_ : Nat), Below w.heap.size w W → at_ + 4 ≤ len → Calls Tryz.prog 64 #[.slice da len dc, .int .i64 (at_ : Int)] W fun e w' => e = .returned (.int .u32 (wordD d at_ : Int)) ∧ w' = W) := fun W j hW hj =>
    num29_any da len dc j d W (HD.out.below hW) HDD.out hj (by omega)
  clear hmm hw1 hg hA hD hd hnb hgm hgs hs hins hbn hG hPE hmay
  have HC0 := Lib.hid (HWD.out w1 0 B2.out (by omega))
  rw [show ((0 : Nat) : Int) = 0 from rfl] at HC0
  generalize wordD d 0 = cn at *
  obtain ⟨k0, hk0⟩ : ∃ k, k = kOf s d := ⟨_, rfl⟩
  rw [← hk0] at HCN HGOOD HBAD HGET HLEN HPE
  have hk1 : k0 ≤ cn ∧ k0 ≤ s := by have := HCN.out; omega
  have HK0 : Hid ((k0 : Int) = min (cn : Int) (s : Int)) := by show _ = _; rw [HCN.out]; omega
  clear hk0
  go_enter Tryz.func30, Tryz.ntmps30
  go_upto_region 1 with fail
  rw [← HW1.out, ← HGx.out]
  clear HW1
  go_wp2_with fail
  refine HC0.out.mono ?_
  rintro e w3 ⟨rfl, rfl⟩
  clear HC0
  have q2 : w3.cell? ⟨g, 2, none⟩ = some (.int .i64 (s : Int)) := cell_row (j := 2) K2.out rfl
  have lg := heap_lt K2.out
  by_cases hcs : s < cn
  case pos =>
    have HK1 : Hid ((k0 : Int) = (s : Int)) := by show _ = _; rw [HK0.out]; omega
    have tq : decide ((s : Int) < (cn : Int)) = true := decide_eq_true (by omega)
    go_wp2_with fail
    clear q2 lg tq
    go_loopw [8, 9] (fun kv ov wr => ∃ (t kk : Nat) (oa : Option Addr) (oc : Nat), t + kk = k0 ∧ kv = .int .i64 (kk : Int) ∧ ov = .slice oa t oc ∧ Hid (∀ j, j < t → (chQ m s d (cn - k0 + j)).1 < m) ∧ Hid (wr.ownsRow (g + 1) 127 2 (.slice oa t oc) t (chVs l ((chs m s d).take t))) ∧ Hid (Below w.heap.size w wr) ∧ Hid (wr.heap[g]? = some (.cells #[.slice ia m ic, .int .u32 (base : Int), .int .i64 (s : Int), .int .i64 port] 57 (0, 0)))) (fun kv _ _ => (intOf kv).toNat)
    case atStart => exact ⟨0, k0, none, 0, by omega, by first | rfl | (rw [HK1.out]), rfl, fun j hj => absurd hj (by omega), World.ownsRow_nil _ _ _ _, B2, K2⟩
    case round =>
      clear B2 K2
      obtain ⟨t, kk, oa, oc, htk, rfl, rfl, HG, HO, B2, K2⟩ := hrel
      by_cases hkk : kk = 0
      case pos =>
        have htk0 : t = k0 := by omega
        have HTK : Hid ((chs m s d).take t = chs m s d) := List.take_of_length_le (by rw [HLEN.out]; omega)
        rw [HTK.out] at HO
        have hch := ch_of_own (xs := chs m s d) (by rw [HLEN.out, ← htk0]; exact HO.out)
        obtain ⟨a5, c5, e5, _, _, hc5⟩ := hch
        rw [HLEN.out] at e5
        have HF : Hid (PE (.returned (.tuple #[.slice oa t oc, .int .u32 (cn : Int), .bool true])) wr) := by
          show PE _ _
          rw [HPE.out, if_pos (HGOOD.out (fun j hj => HG.out j (by omega)))]
          injection e5 with e6 _ e7
          exact ⟨oa, oc, by rw [htk0], by rw [e6]; exact hc5⟩
        subst hkk
        clear htk0 hc5 e5 htk
        go_wp2_with fail
        go_ret3
        exact ⟨HF.out, B2.out⟩
      have t1 : decide ((0 : Int) < (kk : Int)) = true := decide_eq_true (by omega)
      have hkk2 : 0 < kk := by omega
      obtain ⟨q, hq⟩ : ∃ q, q = cn - kk := ⟨_, rfl⟩
      have e1 : (cn : Int) - (kk : Int) = (q : Int) := by omega
      have hqt : cn - k0 + t = q := by omega
      obtain ⟨j, hj⟩ : ∃ j, j = 4 + 4 * m + 8 * (q % s) := ⟨_, rfl⟩
      have hqm : q % s < s := Nat.mod_lt _ (by omega)
      have hjl : j + 8 ≤ len := by omega
      have hjb : j < 10000 := by omega
      have e2 : 4 + 4 * (m : Int) + 8 * ((q : Int) % (s : Int)) = (j : Int) := by rw [hj]; simp
      have HCQ : Hid (chQ m s d q = (wordD d j, wordD d (j + 4))) := by show _ = _; unfold chQ; rw [← hj]
      have HQT := Lib.hid hqt
      have HE2 := Lib.hid e2
      have q0 : wr.cell? ⟨g, 0, none⟩ = some (.slice ia m ic) := cell_row (j := 0) K2.out rfl
      have q2 : wr.cell? ⟨g, 2, none⟩ = some (.int .i64 (s : Int)) := cell_row (j := 2) K2.out rfl
      have hqi : (q : Int) % (s : Int) < 1000 := by
        have : ((q % s : Nat) : Int) = (q : Int) % (s : Int) := by simp
        omega
      have hqi0 : 0 ≤ (q : Int) % (s : Int) := by
        have : ((q % s : Nat) : Int) = (q : Int) % (s : Int) := by simp
        omega
      have m1 : IntKind.u32.wrap (kk : Int) = (kk : Int) := by show (kk : Int) % 4294967296 = _; omega
      have m2 : IntKind.u32.wrap (s : Int) = (s : Int) := by show (s : Int) % 4294967296 = _; omega
      clear hkk hj hqt hqm e2 hq
      go_upto_region 8 with fail
      go_quiet (fail)
      rw [HE2.out]
      have K2 : Hid ((wr.drewN nq).heap[g]? = some (.cells #[.slice ia m ic, .int .u32 (base : Int), .int .i64 (s : Int), .int .i64 port] 57 (0, 0))) := K2.out
      have HO : Hid (World.ownsRow (wr.drewN nq) (g + 1) 127 2 (.slice oa t oc) t (chVs l ((chs m s d).take t))) := HO.out
      have B2 : Hid (Below w.heap.size w (wr.drewN nq)) := belowN B2.out _
      clear q0 q2 hqi hqi0 m2 e1
      generalize wr.drewN nq = wx at *
      have HC1 := Lib.hid (HWD.out wx j B2.out (by omega))
      have hiw := word_lt d HDD.out j
      generalize wordD d j = iw at *
      go_wp2_with fail
      refine HC1.out.mono ?_
      rintro e wy ⟨rfl, rfl⟩
      clear HC1
      have q0 : wy.cell? ⟨g, 0, none⟩ = some (.slice ia m ic) := cell_row (j := 0) K2.out rfl
      have lgy := heap_lt K2.out
      by_cases hb : iw < m
      case neg =>
        have hmi : m ≤ iw := by omega
        have t2 : decide ((m : Int) ≤ (iw : Int)) = true := decide_eq_true (by omega)
        have HF : Hid (∀ W, PE (.returned (.tuple #[.slice none 0 0, .int .u32 0, .bool false])) W) := fun W => by
          rw [HPE.out, HBAD.out t (by omega) (by rw [HQT.out, HCQ.out]; exact hb)]; rfl
        clear hb
        go_wp2_with fail
        go_ret3
        exact ⟨HF.out _, B2.out⟩
      have t2 : decide ((m : Int) ≤ (iw : Int)) = false := decide_eq_false (by omega)
      have HV := Lib.hid (word_lt d HDD.out (j + 4))
      have HC2 : Hid (∀ W, Below w.heap.size w W → Calls Tryz.prog 64 #[.slice da len dc, .int .i64 ((j : Int) + 4)] W fun e w' => e = .returned (.int .u32 (wordD d (j + 4) : Int)) ∧ w' = W) := fun W h1 => by
        have := HWD.out W (j + 4) h1 (by omega)
        rw [show ((j + 4 : Nat) : Int) = (j : Int) + 4 by omega] at this; exact this
      generalize wordD d (j + 4) = va at *
      obtain ⟨ib, io, rfl, hib, hic⟩ := HA.out.cell (by rw [← HM.out]; omega)
      have HXC : Hid (∀ W, Below w.heap.size w W → W.cell? ⟨ib, io + iw, none⟩ = some (.int .i64 (l.getD iw 0))) := fun W hW => (hW.cell (p := ⟨ib, io + iw, none⟩) hib).trans (hic iw (by rw [← HM.out]; exact hb))
      have HTK : Hid (chVs l ((chs m s d).take (t + 1)) = chVs l ((chs m s d).take t) ++ [.int .i64 (l.getD iw 0), .int .u32 (va : Int)]) := by
        show _ = _
        have h1 := HGET.out t (by omega)
        obtain ⟨h2, h3⟩ := List.getElem?_eq_some_iff.1 h1
        rw [List.take_succ_eq_append_getElem h2, h3, HQT.out, HCQ.out, chVs_snoc]; rfl
      have HGN : Hid (∀ j, j < t + 1 → (chQ m s d (cn - k0 + j)).1 < m) := fun j hj => by
        rcases Nat.lt_succ_iff_lt_or_eq.1 hj with h1 | rfl
        · exact HG.out j h1
        · rw [HQT.out, HCQ.out]; exact hb
      generalize l.getD iw 0 = xi at *
      have hb1 : (iw : Int) < (m : Int) := by omega
      clear hic HG HCQ HQT
      go_upto_region 12 with fail
      clear t2 q0
      have m4 : IntKind.i64.wrap ((j : Int) + 4) = (j : Int) + 4 := IntWalk.i64_in _ ⟨by omega, by omega⟩
      have KS : Hid (∀ V : World, (V.cell? ⟨g, 0, none⟩ = some (.slice (some ⟨ib, io, none⟩) m ic) ∧ V.cell? ⟨ib, io + iw, none⟩ = some (.int .i64 xi)) → (V.cell? ⟨g, 0, none⟩ = some (.slice (some ⟨ib, io, none⟩) m ic) ∧ V.cell? ⟨ib, io + iw, none⟩ = some (.int .i64 xi))) := fun V h => h
      have KW : Hid (∀ V : World, Below w.heap.size w V → V.heap[g]? = some (.cells #[.slice (some ⟨ib, io, none⟩) m ic, .int .u32 (base : Int), .int .i64 (s : Int), .int .i64 port] 57 (0, 0)) → (V.cell? ⟨g, 0, none⟩ = some (.slice (some ⟨ib, io, none⟩) m ic) ∧ V.cell? ⟨ib, io + iw, none⟩ = some (.int .i64 xi))) := fun V h1 h2 => ⟨cell_row (j := 0) h2 rfl, HXC.out V h1⟩
      refine wp_region_T (fun V => V.cell? ⟨g, 0, none⟩ = some (.slice (some ⟨ib, io, none⟩) m ic) ∧ V.cell? ⟨ib, io + iw, none⟩ = some (.int .i64 xi)) [] (by kernel_rfl) ?_
      change wpAnyT _ _ _ _ _ _ _ _ _ (World.drew _)
      have K2 : Hid (wy.drew.heap[g]? = some (.cells #[.slice (some ⟨ib, io, none⟩) m ic, .int .u32 (base : Int), .int .i64 (s : Int), .int .i64 port] 57 (0, 0))) := K2.out
      have HO : Hid (World.ownsRow wy.drew (g + 1) 127 2 (.slice oa t oc) t (chVs l ((chs m s d).take t))) := HO.out
      have B2 : Hid (Below w.heap.size w wy.drew) := B2.out.drew
      have S1 := KW.out _ B2.out K2.out
      refine wpAnyT_pure (i := 0) (v := ?_) rfl (by kernel_rfl) (by kernel_rfl) (by kernel_rfl) (by kernel_rfl) (fun _ _ _ h => h) (Or.inl ⟨by kernel_rfl, ?_⟩) (fun _ => by assumption) ?_
      rotate_left
      · intro V hV; clear hV; go_simp; try (with_reducible rfl)
      try simp only [Act.put, List.getElem_toArray, List.getElem_cons_succ, List.getElem_cons_zero, List.setIfInBounds_toArray, List.set_cons_zero, List.set_cons_succ]
      refine wpAnyT_pure (i := 1) (v := ?_) rfl (by kernel_rfl) (by kernel_rfl) (by kernel_rfl) (by kernel_rfl) (fun _ _ _ h => h) (Or.inl ⟨by kernel_rfl, ?_⟩) (fun _ => by assumption) ?_
      rotate_left
      · intro V hV; clear hV; go_simp; try (with_reducible rfl)
      try simp only [Act.put, List.getElem_toArray, List.getElem_cons_succ, List.getElem_cons_zero, List.setIfInBounds_toArray, List.set_cons_zero, List.set_cons_succ]
      refine wpAnyT_take (i := 2) (v := ?_) rfl (by kernel_rfl) (by kernel_rfl) (by kernel_rfl) (by kernel_rfl) (fun _ _ _ h => h) (Or.inl ⟨by kernel_rfl, ?_⟩) (by assumption) ?_
      rotate_left
      · intro V hV; have k := KS.out V hV; clear hV; go_simp; try (with_reducible rfl)
      try simp only [Act.put, List.getElem_toArray, List.getElem_cons_succ, List.getElem_cons_zero, List.setIfInBounds_toArray, List.set_cons_zero, List.set_cons_succ]
      refine wpAnyT_pure (i := 3) (v := ?_) rfl (by kernel_rfl) (by kernel_rfl) (by kernel_rfl) (by kernel_rfl) (fun _ _ _ h => h) (Or.inl ⟨by kernel_rfl, ?_⟩) (fun _ => by assumption) ?_
      rotate_left
      · intro V hV; clear hV; go_simp; try (with_reducible rfl)
      try simp only [Act.put, List.getElem_toArray, List.getElem_cons_succ, List.getElem_cons_zero, List.setIfInBounds_toArray, List.set_cons_zero, List.set_cons_succ]
      refine wpAnyT_pure (i := 4) (v := ?_) rfl (by kernel_rfl) (by kernel_rfl) (by kernel_rfl) (by kernel_rfl) (fun _ _ _ h => h) (Or.inl ⟨by kernel_rfl, ?_⟩) (fun _ => by assumption) ?_
      rotate_left
      · intro V hV; clear hV; go_simp; try (with_reducible rfl)
      try simp only [Act.put, List.getElem_toArray, List.getElem_cons_succ, List.getElem_cons_zero, List.setIfInBounds_toArray, List.set_cons_zero, List.set_cons_succ]
      refine wpAnyT_take (i := 5) (v := ?_) rfl (by kernel_rfl) (by kernel_rfl) (by kernel_rfl) (by kernel_rfl) (fun _ _ _ h => h) (Or.inl ⟨by kernel_rfl, ?_⟩) (by assumption) ?_
      rotate_left
      · intro V hV; have k := KS.out V hV; clear hV; go_simp; try (with_reducible rfl)
      try simp only [Act.put, List.getElem_toArray, List.getElem_cons_succ, List.getElem_cons_zero, List.setIfInBounds_toArray, List.set_cons_zero, List.set_cons_succ]
      refine wpAnyT_pure (i := 6) (v := ?_) rfl (by kernel_rfl) (by kernel_rfl) (by kernel_rfl) (by kernel_rfl) (fun _ _ _ h => h) (Or.inl ⟨by kernel_rfl, ?_⟩) (fun _ => by assumption) ?_
      rotate_left
      · intro V hV; clear hV; go_simp; try (with_reducible rfl)
      try simp only [Act.put, List.getElem_toArray, List.getElem_cons_succ, List.getElem_cons_zero, List.setIfInBounds_toArray, List.set_cons_zero, List.set_cons_succ]
      refine wpAnyT_pure (i := 7) (v := ?_) rfl (by kernel_rfl) (by kernel_rfl) (by kernel_rfl) (by kernel_rfl) (fun _ _ _ h => h) (Or.inl ⟨by kernel_rfl, ?_⟩) (fun _ => by assumption) ?_
      rotate_left
      · intro V hV; clear hV; go_simp; try (with_reducible rfl)
      try simp only [Act.put, List.getElem_toArray, List.getElem_cons_succ, List.getElem_cons_zero, List.setIfInBounds_toArray, List.set_cons_zero, List.set_cons_succ]
      refine wpAnyT_pure (i := 8) (v := ?_) rfl (by kernel_rfl) (by kernel_rfl) (by kernel_rfl) (by kernel_rfl) (fun _ _ _ h => h) (Or.inl ⟨by kernel_rfl, ?_⟩) (fun _ => by assumption) ?_
      rotate_left
      · intro V hV; clear hV; go_simp; try (with_reducible rfl)
      try simp only [Act.put, List.getElem_toArray, List.getElem_cons_succ, List.getElem_cons_zero, List.setIfInBounds_toArray, List.set_cons_zero, List.set_cons_succ]
      refine wpAnyT_one (i := 9) (by kernel_rfl) rfl (fun K hK => ?_)
      go_simp
      refine (HC2.out _ B2.out).mono ?_
      rintro e wz ⟨rfl, rfl⟩
      go_simp
      refine hK.out _ _ (fun _ => KW.out _ B2.out K2.out) ?_
      clear hK K S1 HC2 m4
      try simp only [Act.put, List.getElem_toArray, List.getElem_cons_succ, List.getElem_cons_zero, List.setIfInBounds_toArray, List.set_cons_zero, List.set_cons_succ]
      generalize wy.drew = wz at *
      have S1 := KW.out _ B2.out K2.out
      refine wpAnyT_pure (i := 10) (v := ?_) rfl (by kernel_rfl) (by kernel_rfl) (by kernel_rfl) (by kernel_rfl) (fun _ _ _ h => h) (Or.inl ⟨by kernel_rfl, ?_⟩) (fun _ => by assumption) ?_
      rotate_left
      · intro V hV; clear hV; go_simp; try (with_reducible rfl)
      try simp only [Act.put, List.getElem_toArray, List.getElem_cons_succ, List.getElem_cons_zero, List.setIfInBounds_toArray, List.set_cons_zero, List.set_cons_succ]
      obtain ⟨wn, hwn⟩ : ∃ x, x = wz.alloc (.cells #[.int .i64 xi, .int .u32 (va : Int)] 127) := ⟨_, rfl⟩
      have bn : Below wz.heap.size wz wn := by rw [hwn]; exact alloc_below _ _
      have HNW : Hid (∀ j u, [Value.int .i64 xi, .int .u32 (va : Int)][j]? = some u → wn.cell? ((⟨wz.heap.size, 0, none⟩ : Addr).add j) = some u) := fun j u hj => by
        rw [Go.WideShapes.add_plain, Nat.zero_add, hwn]
        match j, hj with
        | 0, hj => exact cell_row (heap_alloc_new _ _) hj
        | 1, hj => exact cell_row (heap_alloc_new _ _) hj
        | n + 2, hj => simp at hj
      have KN := Lib.hid (kept K2.out bn)
      have ON : Hid (wn.ownsRow (g + 1) 127 2 (.slice oa t oc) t (chVs l ((chs m s d).take t))) := by rw [hwn]; exact HO.out.alloc _
      have BN : Hid (Below w.heap.size w wn) := B2.out.trans (bn.mono B2.out.size)
      have HWN := Lib.hid hwn
      have HB2 : Hid (g + 1 ≤ wn.heap.size) := heap_lt KN.out
      clear hwn bn
      refine wpAnyT_one (i := 11) (by kernel_rfl) rfl (fun K hK => ?_)
      go_simp
      rw [← HWN.out]
      refine hK.out _ _ (fun _ => KW.out _ BN.out KN.out) ?_
      clear hK K S1
      try simp only [Act.put, List.getElem_toArray, List.getElem_cons_succ, List.getElem_cons_zero, List.setIfInBounds_toArray, List.set_cons_zero, List.set_cons_succ]
      have S1 := KW.out _ BN.out KN.out
      refine wpAnyT_one (i := 12) (by kernel_rfl) rfl (fun K hK => ?_)
      refine step_append_lies _ (by rfl) _ _ _ (by rfl) (g + 1) 127 i0 (.agg #[.int .i64 0, .int .u32 0]) 2 16 Tryz.underlying61 HIn.out HZ0.out HZ1.out HZ2.out rfl (by omega) _ t _ (by rfl) ON.out ⟨wz.heap.size, 0, none⟩ 1 1 [.int .i64 xi, .int .u32 (va : Int)] (by rfl) (by rfl) HNW.out (fun u hu => by simp at hu; rcases hu with rfl | rfl <;> rfl) (by omega) (by unfold maxLen; omega) (by omega) HB2.out wn.heap.size rfl ?_
      intro gg cap w8 hown8 hgrow hat hlt8
      have HOW : Hid (∀ j, (Value.slice oa t oc).ownBlock = some j → g + 1 ≤ j) := fun j hj => (ON.out.lt j hj).1
      have B8 : Hid (Below w.heap.size w w8) := BN.out.grown hgrow BN.out.size (fun j hj => by have := HOW.out j hj; have := HGx.out; omega)
      have K8 : Hid (w8.heap[g]? = some (.cells #[.slice (some ⟨ib, io, none⟩) m ic, .int .u32 (base : Int), .int .i64 (s : Int), .int .i64 port] 57 (0, 0))) := (hgrow.block g (heap_lt KN.out) (fun e => by have := HOW.out g e.symm; omega)).trans KN.out
      rw [← HTK.out] at hown8
      have O8 := Lib.hid hown8
      clear hown8 hgrow hat hlt8 S1 HNW KN ON BN HWN
      refine hK.out _ _ (fun _ => KW.out _ B8.out K8.out) ?_
      clear hK K
      try simp only [Act.put, List.getElem_toArray, List.getElem_cons_succ, List.getElem_cons_zero, List.setIfInBounds_toArray, List.set_cons_zero, List.set_cons_succ]
      have S1 := KW.out _ B8.out K8.out
      refine wpAnyT_pure (i := 13) (v := ?_) rfl (by kernel_rfl) (by kernel_rfl) (by kernel_rfl) (by kernel_rfl) (fun _ _ _ h => h) (Or.inl ⟨by kernel_rfl, ?_⟩) (fun _ => by assumption) ?_
      rotate_left
      · intro V hV; clear hV; go_simp; try (with_reducible rfl)
      try simp only [Act.put, List.getElem_toArray, List.getElem_cons_succ, List.getElem_cons_zero, List.setIfInBounds_toArray, List.set_cons_zero, List.set_cons_succ]
      refine wpAnyT_done (by kernel_rfl) ?_ _
      clear S1 KS KW HXC HTK
      go_wp2_with fail
      refine ⟨⟨t + 1, kk - 1, _, _, by omega, by first | rfl | (congr 1; omega), rfl, HGN, O8, B8, K8⟩, ?_⟩
      simp [intOf]; omega
  have HK1 : Hid ((k0 : Int) = (cn : Int)) := by show _ = _; rw [HK0.out]; omega
  have tq : decide ((s : Int) < (cn : Int)) = false := decide_eq_false (by omega)
  go_wp2_with fail
  clear q2 lg tq
  go_loopw [8, 9] (fun kv ov wr => ∃ (t kk : Nat) (oa : Option Addr) (oc : Nat), t + kk = k0 ∧ kv = .int .i64 (kk : Int) ∧ ov = .slice oa t oc ∧ Hid (∀ j, j < t → (chQ m s d (cn - k0 + j)).1 < m) ∧ Hid (wr.ownsRow (g + 1) 127 2 (.slice oa t oc) t (chVs l ((chs m s d).take t))) ∧ Hid (Below w.heap.size w wr) ∧ Hid (wr.heap[g]? = some (.cells #[.slice ia m ic, .int .u32 (base : Int), .int .i64 (s : Int), .int .i64 port] 57 (0, 0)))) (fun kv _ _ => (intOf kv).toNat)
  case atStart => exact ⟨0, k0, none, 0, by omega, by first | rfl | (rw [HK1.out]), rfl, fun j hj => absurd hj (by omega), World.ownsRow_nil _ _ _ _, B2, K2⟩
  case round =>
    clear B2 K2
    obtain ⟨t, kk, oa, oc, htk, rfl, rfl, HG, HO, B2, K2⟩ := hrel
    by_cases hkk : kk = 0
    case pos =>
      have htk0 : t = k0 := by omega
      have HTK : Hid ((chs m s d).take t = chs m s d) := List.take_of_length_le (by rw [HLEN.out]; omega)
      rw [HTK.out] at HO
      have hch := ch_of_own (xs := chs m s d) (by rw [HLEN.out, ← htk0]; exact HO.out)
      obtain ⟨a5, c5, e5, _, _, hc5⟩ := hch
      rw [HLEN.out] at e5
      have HF : Hid (PE (.returned (.tuple #[.slice oa t oc, .int .u32 (cn : Int), .bool true])) wr) := by
        show PE _ _
        rw [HPE.out, if_pos (HGOOD.out (fun j hj => HG.out j (by omega)))]
        injection e5 with e6 _ e7
        exact ⟨oa, oc, by rw [htk0], by rw [e6]; exact hc5⟩
      subst hkk
      clear htk0 hc5 e5 htk
      go_wp2_with fail
      go_ret3
      exact ⟨HF.out, B2.out⟩
    have t1 : decide ((0 : Int) < (kk : Int)) = true := decide_eq_true (by omega)
    have hkk2 : 0 < kk := by omega
    obtain ⟨q, hq⟩ : ∃ q, q = cn - kk := ⟨_, rfl⟩
    have e1 : (cn : Int) - (kk : Int) = (q : Int) := by omega
    have hqt : cn - k0 + t = q := by omega
    obtain ⟨j, hj⟩ : ∃ j, j = 4 + 4 * m + 8 * (q % s) := ⟨_, rfl⟩
    have hqm : q % s < s := Nat.mod_lt _ (by omega)
    have hjl : j + 8 ≤ len := by omega
    have hjb : j < 10000 := by omega
    have e2 : 4 + 4 * (m : Int) + 8 * ((q : Int) % (s : Int)) = (j : Int) := by rw [hj]; simp
    have HCQ : Hid (chQ m s d q = (wordD d j, wordD d (j + 4))) := by show _ = _; unfold chQ; rw [← hj]
    have HQT := Lib.hid hqt
    have HE2 := Lib.hid e2
    have q0 : wr.cell? ⟨g, 0, none⟩ = some (.slice ia m ic) := cell_row (j := 0) K2.out rfl
    have q2 : wr.cell? ⟨g, 2, none⟩ = some (.int .i64 (s : Int)) := cell_row (j := 2) K2.out rfl
    have hqi : (q : Int) % (s : Int) < 1000 := by
      have : ((q % s : Nat) : Int) = (q : Int) % (s : Int) := by simp
      omega
    have hqi0 : 0 ≤ (q : Int) % (s : Int) := by
      have : ((q % s : Nat) : Int) = (q : Int) % (s : Int) := by simp
      omega
    have m1 : IntKind.u32.wrap (kk : Int) = (kk : Int) := by show (kk : Int) % 4294967296 = _; omega
    have m2 : IntKind.u32.wrap (s : Int) = (s : Int) := by show (s : Int) % 4294967296 = _; omega
    clear hkk hj hqt hqm e2 hq
    go_upto_region 8 with fail
    go_quiet (fail)
    rw [HE2.out]
    have K2 : Hid ((wr.drewN nq).heap[g]? = some (.cells #[.slice ia m ic, .int .u32 (base : Int), .int .i64 (s : Int), .int .i64 port] 57 (0, 0))) := K2.out
    have HO : Hid (World.ownsRow (wr.drewN nq) (g + 1) 127 2 (.slice oa t oc) t (chVs l ((chs m s d).take t))) := HO.out
    have B2 : Hid (Below w.heap.size w (wr.drewN nq)) := belowN B2.out _
    clear q0 q2 hqi hqi0 m2 e1
    generalize wr.drewN nq = wx at *
    have HC1 := Lib.hid (HWD.out wx j B2.out (by omega))
    have hiw := word_lt d HDD.out j
    generalize wordD d j = iw at *
    go_wp2_with fail
    refine HC1.out.mono ?_
    rintro e wy ⟨rfl, rfl⟩
    clear HC1
    have q0 : wy.cell? ⟨g, 0, none⟩ = some (.slice ia m ic) := cell_row (j := 0) K2.out rfl
    have lgy := heap_lt K2.out
    by_cases hb : iw < m
    case neg =>
      have hmi : m ≤ iw := by omega
      have t2 : decide ((m : Int) ≤ (iw : Int)) = true := decide_eq_true (by omega)
      have HF : Hid (∀ W, PE (.returned (.tuple #[.slice none 0 0, .int .u32 0, .bool false])) W) := fun W => by
        rw [HPE.out, HBAD.out t (by omega) (by rw [HQT.out, HCQ.out]; exact hb)]; rfl
      clear hb
      go_wp2_with fail
      go_ret3
      exact ⟨HF.out _, B2.out⟩
    have t2 : decide ((m : Int) ≤ (iw : Int)) = false := decide_eq_false (by omega)
    have HV := Lib.hid (word_lt d HDD.out (j + 4))
    have HC2 : Hid (∀ W, Below w.heap.size w W → Calls Tryz.prog 64 #[.slice da len dc, .int .i64 ((j : Int) + 4)] W fun e w' => e = .returned (.int .u32 (wordD d (j + 4) : Int)) ∧ w' = W) := fun W h1 => by
      have := HWD.out W (j + 4) h1 (by omega)
      rw [show ((j + 4 : Nat) : Int) = (j : Int) + 4 by omega] at this; exact this
    generalize wordD d (j + 4) = va at *
    obtain ⟨ib, io, rfl, hib, hic⟩ := HA.out.cell (by rw [← HM.out]; omega)
    have HXC : Hid (∀ W, Below w.heap.size w W → W.cell? ⟨ib, io + iw, none⟩ = some (.int .i64 (l.getD iw 0))) := fun W hW => (hW.cell (p := ⟨ib, io + iw, none⟩) hib).trans (hic iw (by rw [← HM.out]; exact hb))
    have HTK : Hid (chVs l ((chs m s d).take (t + 1)) = chVs l ((chs m s d).take t) ++ [.int .i64 (l.getD iw 0), .int .u32 (va : Int)]) := by
      show _ = _
      have h1 := HGET.out t (by omega)
      obtain ⟨h2, h3⟩ := List.getElem?_eq_some_iff.1 h1
      rw [List.take_succ_eq_append_getElem h2, h3, HQT.out, HCQ.out, chVs_snoc]; rfl
    have HGN : Hid (∀ j, j < t + 1 → (chQ m s d (cn - k0 + j)).1 < m) := fun j hj => by
      rcases Nat.lt_succ_iff_lt_or_eq.1 hj with h1 | rfl
      · exact HG.out j h1
      · rw [HQT.out, HCQ.out]; exact hb
    generalize l.getD iw 0 = xi at *
    have hb1 : (iw : Int) < (m : Int) := by omega
    clear hic HG HCQ HQT
    go_upto_region 12 with fail
    clear t2 q0
    have m4 : IntKind.i64.wrap ((j : Int) + 4) = (j : Int) + 4 := IntWalk.i64_in _ ⟨by omega, by omega⟩
    have KS : Hid (∀ V : World, (V.cell? ⟨g, 0, none⟩ = some (.slice (some ⟨ib, io, none⟩) m ic) ∧ V.cell? ⟨ib, io + iw, none⟩ = some (.int .i64 xi)) → (V.cell? ⟨g, 0, none⟩ = some (.slice (some ⟨ib, io, none⟩) m ic) ∧ V.cell? ⟨ib, io + iw, none⟩ = some (.int .i64 xi))) := fun V h => h
    have KW : Hid (∀ V : World, Below w.heap.size w V → V.heap[g]? = some (.cells #[.slice (some ⟨ib, io, none⟩) m ic, .int .u32 (base : Int), .int .i64 (s : Int), .int .i64 port] 57 (0, 0)) → (V.cell? ⟨g, 0, none⟩ = some (.slice (some ⟨ib, io, none⟩) m ic) ∧ V.cell? ⟨ib, io + iw, none⟩ = some (.int .i64 xi))) := fun V h1 h2 => ⟨cell_row (j := 0) h2 rfl, HXC.out V h1⟩
    refine wp_region_T (fun V => V.cell? ⟨g, 0, none⟩ = some (.slice (some ⟨ib, io, none⟩) m ic) ∧ V.cell? ⟨ib, io + iw, none⟩ = some (.int .i64 xi)) [] (by kernel_rfl) ?_
    change wpAnyT _ _ _ _ _ _ _ _ _ (World.drew _)
    have K2 : Hid (wy.drew.heap[g]? = some (.cells #[.slice (some ⟨ib, io, none⟩) m ic, .int .u32 (base : Int), .int .i64 (s : Int), .int .i64 port] 57 (0, 0))) := K2.out
    have HO : Hid (World.ownsRow wy.drew (g + 1) 127 2 (.slice oa t oc) t (chVs l ((chs m s d).take t))) := HO.out
    have B2 : Hid (Below w.heap.size w wy.drew) := B2.out.drew
    have S1 := KW.out _ B2.out K2.out
    refine wpAnyT_pure (i := 0) (v := ?_) rfl (by kernel_rfl) (by kernel_rfl) (by kernel_rfl) (by kernel_rfl) (fun _ _ _ h => h) (Or.inl ⟨by kernel_rfl, ?_⟩) (fun _ => by assumption) ?_
    rotate_left
    · intro V hV; clear hV; go_simp; try (with_reducible rfl)
    try simp only [Act.put, List.getElem_toArray, List.getElem_cons_succ, List.getElem_cons_zero, List.setIfInBounds_toArray, List.set_cons_zero, List.set_cons_succ]
    refine wpAnyT_pure (i := 1) (v := ?_) rfl (by kernel_rfl) (by kernel_rfl) (by kernel_rfl) (by kernel_rfl) (fun _ _ _ h => h) (Or.inl ⟨by kernel_rfl, ?_⟩) (fun _ => by assumption) ?_
    rotate_left
    · intro V hV; clear hV; go_simp; try (with_reducible rfl)
    try simp only [Act.put, List.getElem_toArray, List.getElem_cons_succ, List.getElem_cons_zero, List.setIfInBounds_toArray, List.set_cons_zero, List.set_cons_succ]
    refine wpAnyT_take (i := 2) (v := ?_) rfl (by kernel_rfl) (by kernel_rfl) (by kernel_rfl) (by kernel_rfl) (fun _ _ _ h => h) (Or.inl ⟨by kernel_rfl, ?_⟩) (by assumption) ?_
    rotate_left
    · intro V hV; have k := KS.out V hV; clear hV; go_simp; try (with_reducible rfl)
    try simp only [Act.put, List.getElem_toArray, List.getElem_cons_succ, List.getElem_cons_zero, List.setIfInBounds_toArray, List.set_cons_zero, List.set_cons_succ]
    refine wpAnyT_pure (i := 3) (v := ?_) rfl (by kernel_rfl) (by kernel_rfl) (by kernel_rfl) (by kernel_rfl) (fun _ _ _ h => h) (Or.inl ⟨by kernel_rfl, ?_⟩) (fun _ => by assumption) ?_
    rotate_left
    · intro V hV; clear hV; go_simp; try (with_reducible rfl)
    try simp only [Act.put, List.getElem_toArray, List.getElem_cons_succ, List.getElem_cons_zero, List.setIfInBounds_toArray, List.set_cons_zero, List.set_cons_succ]
    refine wpAnyT_pure (i := 4) (v := ?_) rfl (by kernel_rfl) (by kernel_rfl) (by kernel_rfl) (by kernel_rfl) (fun _ _ _ h => h) (Or.inl ⟨by kernel_rfl, ?_⟩) (fun _ => by assumption) ?_
    rotate_left
    · intro V hV; clear hV; go_simp; try (with_reducible rfl)
    try simp only [Act.put, List.getElem_toArray, List.getElem_cons_succ, List.getElem_cons_zero, List.setIfInBounds_toArray, List.set_cons_zero, List.set_cons_succ]
    refine wpAnyT_take (i := 5) (v := ?_) rfl (by kernel_rfl) (by kernel_rfl) (by kernel_rfl) (by kernel_rfl) (fun _ _ _ h => h) (Or.inl ⟨by kernel_rfl, ?_⟩) (by assumption) ?_
    rotate_left
    · intro V hV; have k := KS.out V hV; clear hV; go_simp; try (with_reducible rfl)
    try simp only [Act.put, List.getElem_toArray, List.getElem_cons_succ, List.getElem_cons_zero, List.setIfInBounds_toArray, List.set_cons_zero, List.set_cons_succ]
    refine wpAnyT_pure (i := 6) (v := ?_) rfl (by kernel_rfl) (by kernel_rfl) (by kernel_rfl) (by kernel_rfl) (fun _ _ _ h => h) (Or.inl ⟨by kernel_rfl, ?_⟩) (fun _ => by assumption) ?_
    rotate_left
    · intro V hV; clear hV; go_simp; try (with_reducible rfl)
    try simp only [Act.put, List.getElem_toArray, List.getElem_cons_succ, List.getElem_cons_zero, List.setIfInBounds_toArray, List.set_cons_zero, List.set_cons_succ]
    refine wpAnyT_pure (i := 7) (v := ?_) rfl (by kernel_rfl) (by kernel_rfl) (by kernel_rfl) (by kernel_rfl) (fun _ _ _ h => h) (Or.inl ⟨by kernel_rfl, ?_⟩) (fun _ => by assumption) ?_
    rotate_left
    · intro V hV; clear hV; go_simp; try (with_reducible rfl)
    try simp only [Act.put, List.getElem_toArray, List.getElem_cons_succ, List.getElem_cons_zero, List.setIfInBounds_toArray, List.set_cons_zero, List.set_cons_succ]
    refine wpAnyT_pure (i := 8) (v := ?_) rfl (by kernel_rfl) (by kernel_rfl) (by kernel_rfl) (by kernel_rfl) (fun _ _ _ h => h) (Or.inl ⟨by kernel_rfl, ?_⟩) (fun _ => by assumption) ?_
    rotate_left
    · intro V hV; clear hV; go_simp; try (with_reducible rfl)
    try simp only [Act.put, List.getElem_toArray, List.getElem_cons_succ, List.getElem_cons_zero, List.setIfInBounds_toArray, List.set_cons_zero, List.set_cons_succ]
    refine wpAnyT_one (i := 9) (by kernel_rfl) rfl (fun K hK => ?_)
    go_simp
    refine (HC2.out _ B2.out).mono ?_
    rintro e wz ⟨rfl, rfl⟩
    go_simp
    refine hK.out _ _ (fun _ => KW.out _ B2.out K2.out) ?_
    clear hK K S1 HC2 m4
    try simp only [Act.put, List.getElem_toArray, List.getElem_cons_succ, List.getElem_cons_zero, List.setIfInBounds_toArray, List.set_cons_zero, List.set_cons_succ]
    generalize wy.drew = wz at *
    have S1 := KW.out _ B2.out K2.out
    refine wpAnyT_pure (i := 10) (v := ?_) rfl (by kernel_rfl) (by kernel_rfl) (by kernel_rfl) (by kernel_rfl) (fun _ _ _ h => h) (Or.inl ⟨by kernel_rfl, ?_⟩) (fun _ => by assumption) ?_
    rotate_left
    · intro V hV; clear hV; go_simp; try (with_reducible rfl)
    try simp only [Act.put, List.getElem_toArray, List.getElem_cons_succ, List.getElem_cons_zero, List.setIfInBounds_toArray, List.set_cons_zero, List.set_cons_succ]
    obtain ⟨wn, hwn⟩ : ∃ x, x = wz.alloc (.cells #[.int .i64 xi, .int .u32 (va : Int)] 127) := ⟨_, rfl⟩
    have bn : Below wz.heap.size wz wn := by rw [hwn]; exact alloc_below _ _
    have HNW : Hid (∀ j u, [Value.int .i64 xi, .int .u32 (va : Int)][j]? = some u → wn.cell? ((⟨wz.heap.size, 0, none⟩ : Addr).add j) = some u) := fun j u hj => by
      rw [Go.WideShapes.add_plain, Nat.zero_add, hwn]
      match j, hj with
      | 0, hj => exact cell_row (heap_alloc_new _ _) hj
      | 1, hj => exact cell_row (heap_alloc_new _ _) hj
      | n + 2, hj => simp at hj
    have KN := Lib.hid (kept K2.out bn)
    have ON : Hid (wn.ownsRow (g + 1) 127 2 (.slice oa t oc) t (chVs l ((chs m s d).take t))) := by rw [hwn]; exact HO.out.alloc _
    have BN : Hid (Below w.heap.size w wn) := B2.out.trans (bn.mono B2.out.size)
    have HWN := Lib.hid hwn
    have HB2 : Hid (g + 1 ≤ wn.heap.size) := heap_lt KN.out
    clear hwn bn
    refine wpAnyT_one (i := 11) (by kernel_rfl) rfl (fun K hK => ?_)
    go_simp
    rw [← HWN.out]
    refine hK.out _ _ (fun _ => KW.out _ BN.out KN.out) ?_
    clear hK K S1
    try simp only [Act.put, List.getElem_toArray, List.getElem_cons_succ, List.getElem_cons_zero, List.setIfInBounds_toArray, List.set_cons_zero, List.set_cons_succ]
    have S1 := KW.out _ BN.out KN.out
    refine wpAnyT_one (i := 12) (by kernel_rfl) rfl (fun K hK => ?_)
    refine step_append_lies _ (by rfl) _ _ _ (by rfl) (g + 1) 127 i0 (.agg #[.int .i64 0, .int .u32 0]) 2 16 Tryz.underlying61 HIn.out HZ0.out HZ1.out HZ2.out rfl (by omega) _ t _ (by rfl) ON.out ⟨wz.heap.size, 0, none⟩ 1 1 [.int .i64 xi, .int .u32 (va : Int)] (by rfl) (by rfl) HNW.out (fun u hu => by simp at hu; rcases hu with rfl | rfl <;> rfl) (by omega) (by unfold maxLen; omega) (by omega) HB2.out wn.heap.size rfl ?_
    intro gg cap w8 hown8 hgrow hat hlt8
    have HOW : Hid (∀ j, (Value.slice oa t oc).ownBlock = some j → g + 1 ≤ j) := fun j hj => (ON.out.lt j hj).1
    have B8 : Hid (Below w.heap.size w w8) := BN.out.grown hgrow BN.out.size (fun j hj => by have := HOW.out j hj; have := HGx.out; omega)
    have K8 : Hid (w8.heap[g]? = some (.cells #[.slice (some ⟨ib, io, none⟩) m ic, .int .u32 (base : Int), .int .i64 (s : Int), .int .i64 port] 57 (0, 0))) := (hgrow.block g (heap_lt KN.out) (fun e => by have := HOW.out g e.symm; omega)).trans KN.out
    rw [← HTK.out] at hown8
    have O8 := Lib.hid hown8
    clear hown8 hgrow hat hlt8 S1 HNW KN ON BN HWN
    refine hK.out _ _ (fun _ => KW.out _ B8.out K8.out) ?_
    clear hK K
    try simp only [Act.put, List.getElem_toArray, List.getElem_cons_succ, List.getElem_cons_zero, List.setIfInBounds_toArray, List.set_cons_zero, List.set_cons_succ]
    have S1 := KW.out _ B8.out K8.out
    refine wpAnyT_pure (i := 13) (v := ?_) rfl (by kernel_rfl) (by kernel_rfl) (by kernel_rfl) (by kernel_rfl) (fun _ _ _ h => h) (Or.inl ⟨by kernel_rfl, ?_⟩) (fun _ => by assumption) ?_
    rotate_left
    · intro V hV; clear hV; go_simp; try (with_reducible rfl)
    try simp only [Act.put, List.getElem_toArray, List.getElem_cons_succ, List.getElem_cons_zero, List.setIfInBounds_toArray, List.set_cons_zero, List.set_cons_succ]
    refine wpAnyT_done (by kernel_rfl) ?_ _
    clear S1 KS KW HXC HTK
    go_wp2_with fail
    refine ⟨⟨t + 1, kk - 1, _, _, by omega, by first | rfl | (congr 1; omega), rfl, HGN, O8, B8, K8⟩, ?_⟩
    simp [intOf]; omega
end Go.Proofs.YtdlpgoackmgdkaaGreatDoor
