/- AsmBytes. -/
import Derived.Test.YtalmgjeiopjhlaaGreatDoorAsmBl
import Derived.Test.YtalmgjeiopjhlaaGreatDoorAsmY
import Derived.Test.YtalmgjeiopjhlaaGreatDoorAsmGr
import Derived.Test.YtalmgjeiopjhlaaGreatDoorCls
namespace Go.Proofs.YtalmgjeiopjhlaaGreatDoor
open Go.Shelf Go.RowKit
set_option linter.unusedVariables false
set_option linter.unusedSimpArgs false
theorem rdS_len (n : Nat) (X : Nat → Nat) : (rdS n X).1.length ≤ 16384 := by
  unfold rdS
  split
  · exact Nat.zero_le _
  split
  · exact Nat.zero_le _
  split
  · exact Nat.zero_le _
  · show (rdL X (n / 8)).length ≤ _
    rw [rdL_len]; omega
theorem str_any {w : World} {a : Option Addr} {n : Nat} {X : Nat → Nat} (c : Nat) (h : SliceAt w a n (bV X)) : (convert 42 9 (.slice a n c)).run Tryz.prog w = .ok (.string (strB X n)) w := by
  by_cases hp : 0 < n
  · obtain ⟨b, off, rfl, hlt, hc⟩ := h.at hp
    exact run_convert_bytes_arg w _ _ Tryz.underlying42 Tryz.underlying5 b off n c _ (by simp) (fun i hi => by rw [hc i hi]; simp [bV, hi]) _ Tryz.underlying9
  · obtain rfl : n = 0 := by omega
    cases a with
    | none => exact run_convert_bytes_nil w _ _ Tryz.underlying42 Tryz.underlying5 0 c _ Tryz.underlying9
    | some x =>
      rw [run_convert_bytes_string w _ _ _ _ 0 c Tryz.underlying42 Tryz.underlying5 Tryz.underlying9, run_bytesToString w x 0 c [] (by simp [loadCells, loadCellsFrom])]
      rfl
theorem bys_own2 {w : World} {base : Nat} {v : Value} {ls : List Ins} (h : w.ownsRow base 5 1 v (8 * ls.length) (bysK ls ls.length)) : ∃ a c, v = .slice a (8 * ls.length) c ∧ 8 * ls.length ≤ c ∧ c ≤ maxLen ∧ SliceAt w a (8 * ls.length) (bV (byX ls)) := by
  rw [bysK_eq] at h
  generalize 8 * ls.length = n at h ⊢
  rcases h.2 with ⟨rfl, h0⟩ | ⟨g, cap, cur, rfl, hb, hg, hn, hm, hs, htk⟩
  · rw [h0]
    exact ⟨none, 0, rfl, Nat.le_refl _, by unfold maxLen; omega, .inl rfl⟩
  · refine ⟨_, cap, rfl, hn, hm, .inr ⟨g, 0, rfl, heap_lt hg, fun i hi => ?_⟩⟩
    have e : ((List.range n).map (bV (byX ls)))[i]? = some (bV (byX ls) i) := by
      rw [List.getElem?_map, List.getElem?_range hi]; rfl
    rw [← htk, List.getElem?_take, if_pos (by omega)] at e
    rw [Nat.zero_add]
    exact cell_row hg (by simpa using e)
theorem held_mono {P : Program} {ops : Array Oper} {Q : Exit → Act → World → Prop} {md : Region.Mode} {S S' : World → Prop} (hS : ∀ w, S w → S' w) : ∀ (fuel : Nat) (listed : Array Bool) (a : Act) (w : World), wpAnyH P md ops Q S fuel listed a w → wpAnyH P md ops Q S' fuel listed a w
  | 0, _, _, _, h => h
  | fuel + 1, _, _, _, h => ⟨h.1, fun i hi => wpOp_mono (fun a' w' h' => ⟨hS _ h'.1, held_mono hS fuel _ a' w' h'.2⟩) (h.2 i hi)⟩
set_option maxHeartbeats 4000000 in
set_option maxRecDepth 100000 in
theorem bytes_law (ls : List Ins) (X : Nat → Nat) (a : Option Addr) (c : Nat) (b : Option Addr) (len d : Nat) (w : World) (hA : InsAt w a ls) (hok : ∀ i, i < ls.length → (ls.getD i noIns).ok) (hm : ls.length ≤ 9223372036854775807) (hX : SliceAt w b len (bV X)) (hl : ∀ i, X i < 256) (hm2 : len ≤ 9223372036854775807) (hcap : len ≤ d) (hcm : d ≤ 9223372036854775807) (hL : LibW w) :
    Calls Tryz.prog 5 #[.slice a ls.length c, .slice b len d] w fun e w' => e = .returned (.bool true) ∧ Below w.heap.size w w' := by
  have HK := Lib.hid (known_any w hL)
  have HL := Lib.hid hL
  have HA := Lib.hid hA; have HX := Lib.hid hX
  have HRD := Lib.hid (fun W hW => aread_any b len d X W hW hl hm2 hcap hcm)
  have HRR := Lib.hid (fun W hW => raread_any b len d X W hW hl hm2 hcap hcm)
  have HQ := Lib.hid (fun (h : ls.length ≤ 1000000) W hW => abytes_any ls a c W hW hok h)
  have HU := Lib.hid (fun (h : ls.length ≤ 1000000) W hW => rabytes_any ls a c W hW hok h)
  have HLE := Lib.hid (rdS_len len X)
  generalize rdS len X = r at *
  obtain ⟨is, rn, rc⟩ := r
  have hisl : is.length ≤ 16384 := HLE.out
  clear hL hA hok hX hl HLE
  go_enter Tryz.func5, Tryz.ntmps5
  go_wp2_with fail
  refine HK.out.mono ?_
  rintro e w1 ⟨rfl, hb1⟩
  have B1 := Lib.hid hb1
  clear hb1 HK
  by_cases hbig : 3000 < ls.length
  · have t1 : decide ((3000 : Int) < (ls.length : Int)) = true := decide_eq_true (by omega)
    go_wp2_with fail
    go_ret
    exact ⟨rfl, B1.out⟩
  have t1 : decide ((3000 : Int) < (ls.length : Int)) = false := decide_eq_false (by omega)
  by_cases hbig2 : 200000 < len
  · have t2 : decide ((200000 : Int) < (len : Int)) = true := decide_eq_true (by omega)
    go_wp2_with fail
    go_ret
    exact ⟨rfl, B1.out⟩
  have t2 : decide ((200000 : Int) < (len : Int)) = false := decide_eq_false (by omega)
  have HQ := Lib.hid (HQ.out (by omega))
  have HU := Lib.hid (HU.out (by omega))
  go_wp2_with fail
  refine (HRD.out w1 (HX.out.below B1.out)).mono ?_
  rintro e w2 ⟨⟨v, rfl, hv⟩, hb2⟩
  obtain ⟨ia, ic, rfl, _, _, hia⟩ := ins_of_own (ls := is) hv
  have IA := Lib.hid hia
  have B2 : Hid (Below w.heap.size w w2) := B1.out.trans (hb2.mono B1.out.size)
  clear hv hia hb2 B1 HRD
  go_wp2_with fail
  refine (HRR.out w2 (HX.out.below B2.out)).mono ?_
  rintro e w3 ⟨⟨v, rfl, hv⟩, hb3⟩
  obtain ⟨ja, jc, rfl, _, _, hja⟩ := ins_of_own (ls := is) hv
  have JA := Lib.hid hja
  have IA3 := Lib.hid (IA.out.below hb3)
  have B3 : Hid (Below w.heap.size w w3) := B2.out.trans (hb3.mono B2.out.size)
  clear hv hja hb3 B2 HRR IA HX HL
  have HAB := Lib.hid (fun V (h : Below w.heap.size w V) => HA.out.below h)
  have HIJ : Hid (∀ V, Below w3.heap.size w3 V → InsAt V ia is ∧ InsAt V ja is) := fun V h => ⟨IA3.out.below h, JA.out.below h⟩
  have BD : Hid (Below w.heap.size w w3.drew) := B3.out.drew
  have Z3 : Hid (Below w3.heap.size w3 w3.drew) := (Below.refl _ _).drew
  have HSC := Lib.hid (fun V (h : InsAt V ia is ∧ InsAt V ja is) => scode_true is ia ja ic jc V h.1 h.2 (by omega))
  have HQ2 : Hid (∀ V, Below w3.heap.size w3 V → Below w.heap.size w V → Calls Tryz.prog 22 #[.slice a ls.length c] V fun e w' => (∃ pa pc, e = .returned (.slice pa (8 * ls.length) pc) ∧ SliceAt w' pa (8 * ls.length) (bV (byX ls))) ∧ Below V.heap.size V w') := fun V h1 h2 => (HQ.out V (HAB.out V h2)).mono fun e w' ⟨⟨v, he, hv⟩, hb⟩ => by
    obtain ⟨pa, pc, rfl, _, _, hpa⟩ := bys_own2 hv
    exact ⟨⟨pa, pc, he, hpa⟩, hb⟩
  have HU2 : Hid (∀ V, Below w3.heap.size w3 V → Below w.heap.size w V → Calls Tryz.prog 23 #[.slice a ls.length c] V fun e w' => (∃ pa pc, e = .returned (.slice pa (8 * ls.length) pc) ∧ SliceAt w' pa (8 * ls.length) (bV (byX ls))) ∧ Below V.heap.size V w') := fun V h1 h2 => (HU.out V (HAB.out V h2)).mono fun e w' ⟨⟨v, he, hv⟩, hb⟩ => by
    obtain ⟨pa, pc, rfl, _, _, hpa⟩ := bys_own2 hv
    exact ⟨⟨pa, pc, he, hpa⟩, hb⟩
  have HCV : Hid (∀ V pa pc, SliceAt V pa (8 * ls.length) (bV (byX ls)) → ∀ k, (convert 42 9 (.slice pa (8 * ls.length) pc)).run Tryz.prog (V.drewN k) = .ok (.string (strB (byX ls) (8 * ls.length))) (V.drewN k)) := fun V pa pc h k => str_any pc (h.below ⟨rfl, rfl, rfl, Nat.le_refl _, fun _ _ => rfl⟩)
  have HCV0 : Hid (∀ V pa pc, SliceAt V pa (8 * ls.length) (bV (byX ls)) → (convert 42 9 (.slice pa (8 * ls.length) pc)).run Tryz.prog V = .ok (.string (strB (byX ls) (8 * ls.length))) V) := fun V pa pc h => str_any pc h
  generalize strB (byX ls) (8 * ls.length) = st at *
  generalize byX ls = Y at *
  generalize 8 * ls.length = bl at *
  have teq : (is.length : Int) = (is.length : Int) := rfl
  clear HQ HU HA HAB IA3 JA teq
  go_upto_region 7 with fail
  refine wp_region_any (by kernel_rfl) ?_
  change wpAny _ _ _ _ _ _ _ (World.drew _)
  refine wpAny_take (i := 0) (v := ?_) rfl (by kernel_rfl) (by kernel_rfl) (by kernel_rfl) (fun _ _ _ h => h) (Or.inl ⟨by kernel_rfl, ?_⟩) ?_
  rotate_left
  · intro w; go_simp; try (with_reducible rfl)
  try simp only [Act.put, List.getElem_toArray, List.getElem_cons_succ, List.getElem_cons_zero, List.setIfInBounds_toArray, List.set_cons_zero, List.set_cons_succ]
  refine wpAny_take (i := 3) (v := ?_) rfl (by kernel_rfl) (by kernel_rfl) (by kernel_rfl) (fun _ _ _ h => h) (Or.inl ⟨by kernel_rfl, ?_⟩) ?_
  rotate_left
  · intro w; go_simp; try (with_reducible rfl)
  try simp only [Act.put, List.getElem_toArray, List.getElem_cons_succ, List.getElem_cons_zero, List.setIfInBounds_toArray, List.set_cons_zero, List.set_cons_succ]
  refine wpAny_ready (rs := [1]) (by kernel_rfl) (by simp) ?_
  refine AllReady.cons rfl (fun K hK => ?_) AllReady.nil
  go_simp
  refine (HQ2.out _ Z3.out BD.out).mono ?_
  rintro e w4 ⟨⟨pa, pc, rfl, hp⟩, hb4⟩
  have B4 := Lib.hid (BD.out.trans (hb4.mono BD.out.size)); have Z4 := Lib.hid (Z3.out.trans (hb4.mono Z3.out.size))
  have K4 := Lib.hid (fun V (h : Below w4.heap.size w4 V) => HCV0.out V pa pc (SliceAt.below hp h))
  clear hb4 hp
  go_simp
  refine hK _ _ ?_
  clear hK K
  try simp only [Act.put, List.getElem_toArray, List.getElem_cons_succ, List.getElem_cons_zero, List.setIfInBounds_toArray, List.set_cons_zero, List.set_cons_succ]
  refine wpAny_of_held (S := fun V => Below w4.heap.size w4 V) _ _ _ _ ?_
  have S4 : Below w4.heap.size w4 w4 := Below.refl _ _
  refine wpAnyH_take (i := 2) (v := ?_) rfl (by kernel_rfl) (by kernel_rfl) (by kernel_rfl) (fun _ _ _ h => h) (Or.inl ⟨by kernel_rfl, ?_⟩) (by assumption) ?_
  rotate_left
  · intro V hV; have k := K4.out V hV; clear hV; go_simp; try (with_reducible rfl)
  try simp only [Act.put, List.getElem_toArray, List.getElem_cons_succ, List.getElem_cons_zero, List.setIfInBounds_toArray, List.set_cons_zero, List.set_cons_succ]
  refine wpAnyH_ready (rs := [4]) (by kernel_rfl) (by simp) ?_
  refine AllReadyH.cons rfl (fun K hK => ?_) AllReadyH.nil
  go_simp
  refine (HU2.out _ Z4.out B4.out).mono ?_
  rintro e w5 ⟨⟨qa, qc, rfl, hp⟩, hb5⟩
  have B5 := Lib.hid (B4.out.trans (hb5.mono B4.out.size)); have Z5 := Lib.hid (Z4.out.trans (hb5.mono Z4.out.size))
  have K5 := Lib.hid (fun V (h : Below w5.heap.size w5 V) => HCV0.out V qa qc (SliceAt.below hp h))
  have X5 := Lib.hid hb5
  clear hb5 hp S4
  go_simp
  refine hK.out _ _ X5.out (fun _ => ?_)
  clear hK K
  try simp only [Act.put, List.getElem_toArray, List.getElem_cons_succ, List.getElem_cons_zero, List.setIfInBounds_toArray, List.set_cons_zero, List.set_cons_succ]
  refine held_mono (S := fun V => Below w5.heap.size w5 V) (fun V hV => X5.out.trans (hV.mono X5.out.size)) _ _ _ _ ?_
  have S5 : Below w5.heap.size w5 w5 := Below.refl _ _
  refine wpAnyH_take (i := 5) (v := ?_) rfl (by kernel_rfl) (by kernel_rfl) (by kernel_rfl) (fun _ _ _ h => h) (Or.inl ⟨by kernel_rfl, ?_⟩) (by assumption) ?_
  rotate_left
  · intro V hV; have k := K5.out V hV; clear hV; go_simp; try (with_reducible rfl)
  try simp only [Act.put, List.getElem_toArray, List.getElem_cons_succ, List.getElem_cons_zero, List.setIfInBounds_toArray, List.set_cons_zero, List.set_cons_succ]
  refine wpAnyH_take (i := 6) (v := ?_) rfl (by kernel_rfl) (by kernel_rfl) (by kernel_rfl) (fun _ _ _ h => h) (Or.inl ⟨by kernel_rfl, ?_⟩) (by assumption) ?_
  rotate_left
  · intro V hV; clear hV; go_simp; try (with_reducible rfl)
  try simp only [Act.put, List.getElem_toArray, List.getElem_cons_succ, List.getElem_cons_zero, List.setIfInBounds_toArray, List.set_cons_zero, List.set_cons_succ]
  refine wpAnyH_take (i := 7) (v := ?_) rfl (by kernel_rfl) (by kernel_rfl) (by kernel_rfl) (fun _ _ _ h => h) (Or.inl ⟨by kernel_rfl, ?_⟩) (by assumption) ?_
  rotate_left
  · intro V hV; clear hV; go_simp; try (with_reducible rfl)
  try simp only [Act.put, List.getElem_toArray, List.getElem_cons_succ, List.getElem_cons_zero, List.setIfInBounds_toArray, List.set_cons_zero, List.set_cons_succ]
  refine wpAnyH_take (i := 8) (v := ?_) rfl (by kernel_rfl) (by kernel_rfl) (by kernel_rfl) (fun _ _ _ h => h) (Or.inl ⟨by kernel_rfl, ?_⟩) (by assumption) ?_
  rotate_left
  · intro V hV; clear hV; go_simp; try (with_reducible rfl)
  try simp only [Act.put, List.getElem_toArray, List.getElem_cons_succ, List.getElem_cons_zero, List.setIfInBounds_toArray, List.set_cons_zero, List.set_cons_succ]
  refine wpAnyH_take (i := 9) (v := ?_) rfl (by kernel_rfl) (by kernel_rfl) (by kernel_rfl) (fun _ _ _ h => h) (Or.inl ⟨by kernel_rfl, ?_⟩) (by assumption) ?_
  rotate_left
  · intro V hV; clear hV; go_simp; try (with_reducible rfl)
  try simp only [Act.put, List.getElem_toArray, List.getElem_cons_succ, List.getElem_cons_zero, List.setIfInBounds_toArray, List.set_cons_zero, List.set_cons_succ]
  refine wpAnyH_ready (rs := [10]) (by kernel_rfl) (by simp) ?_
  refine AllReadyH.cons rfl (fun K hK => ?_) AllReadyH.nil
  go_simp
  refine (HSC.out _ (HIJ.out _ Z5.out)).mono ?_
  rintro e w6 ⟨rfl, hb6⟩
  have B6 := Lib.hid (B5.out.trans (hb6.mono B5.out.size))
  have S6 := hb6
  clear hb6 S5
  go_simp
  refine hK.out _ _ S6 (fun _ => ?_)
  clear hK K
  try simp only [Act.put, List.getElem_toArray, List.getElem_cons_succ, List.getElem_cons_zero, List.setIfInBounds_toArray, List.set_cons_zero, List.set_cons_succ]
  refine wpAnyH_take (i := 11) (v := ?_) rfl (by kernel_rfl) (by kernel_rfl) (by kernel_rfl) (fun _ _ _ h => h) (Or.inl ⟨by kernel_rfl, ?_⟩) (by assumption) ?_
  rotate_left
  · intro V hV; clear hV; go_simp; try (with_reducible rfl)
  try simp only [Act.put, List.getElem_toArray, List.getElem_cons_succ, List.getElem_cons_zero, List.setIfInBounds_toArray, List.set_cons_zero, List.set_cons_succ]
  refine wpAnyH_take (i := 12) (v := ?_) rfl (by kernel_rfl) (by kernel_rfl) (by kernel_rfl) (fun _ _ _ h => h) (Or.inl ⟨by kernel_rfl, ?_⟩) (by assumption) ?_
  rotate_left
  · intro V hV; clear hV; go_simp; try (with_reducible rfl)
  try simp only [Act.put, List.getElem_toArray, List.getElem_cons_succ, List.getElem_cons_zero, List.setIfInBounds_toArray, List.set_cons_zero, List.set_cons_succ]
  refine wpAnyH_take (i := 13) (v := ?_) rfl (by kernel_rfl) (by kernel_rfl) (by kernel_rfl) (fun _ _ _ h => h) (Or.inl ⟨by kernel_rfl, ?_⟩) (by assumption) ?_
  rotate_left
  · intro V hV; clear hV; go_simp; try (with_reducible rfl)
  try simp only [Act.put, List.getElem_toArray, List.getElem_cons_succ, List.getElem_cons_zero, List.setIfInBounds_toArray, List.set_cons_zero, List.set_cons_succ]
  refine wpAnyH_take (i := 14) (v := ?_) rfl (by kernel_rfl) (by kernel_rfl) (by kernel_rfl) (fun _ _ _ h => h) (Or.inl ⟨by kernel_rfl, ?_⟩) (by assumption) ?_
  rotate_left
  · intro V hV; clear hV; go_simp; try (with_reducible rfl)
  try simp only [Act.put, List.getElem_toArray, List.getElem_cons_succ, List.getElem_cons_zero, List.setIfInBounds_toArray, List.set_cons_zero, List.set_cons_succ]
  refine wpAnyH_take (i := 15) (v := ?_) rfl (by kernel_rfl) (by kernel_rfl) (by kernel_rfl) (fun _ _ _ h => h) (Or.inl ⟨by kernel_rfl, ?_⟩) (by assumption) ?_
  rotate_left
  · intro V hV; clear hV; go_simp; try (with_reducible rfl)
  try simp only [Act.put, List.getElem_toArray, List.getElem_cons_succ, List.getElem_cons_zero, List.setIfInBounds_toArray, List.set_cons_zero, List.set_cons_succ]
  refine wpAnyH_take (i := 16) (v := ?_) rfl (by kernel_rfl) (by kernel_rfl) (by kernel_rfl) (fun _ _ _ h => h) (Or.inl ⟨by kernel_rfl, ?_⟩) (by assumption) ?_
  rotate_left
  · intro V hV; clear hV; go_simp; try (with_reducible rfl)
  try simp only [Act.put, List.getElem_toArray, List.getElem_cons_succ, List.getElem_cons_zero, List.setIfInBounds_toArray, List.set_cons_zero, List.set_cons_succ]
  refine wpAnyH_take (i := 17) (v := ?_) rfl (by kernel_rfl) (by kernel_rfl) (by kernel_rfl) (fun _ _ _ h => h) (Or.inl ⟨by kernel_rfl, ?_⟩) (by assumption) ?_
  rotate_left
  · intro V hV; clear hV; go_simp; try (with_reducible rfl)
  try simp only [Act.put, List.getElem_toArray, List.getElem_cons_succ, List.getElem_cons_zero, List.setIfInBounds_toArray, List.set_cons_zero, List.set_cons_succ]
  refine wpAnyH_take (i := 18) (v := ?_) rfl (by kernel_rfl) (by kernel_rfl) (by kernel_rfl) (fun _ _ _ h => h) (Or.inl ⟨by kernel_rfl, ?_⟩) (by assumption) ?_
  rotate_left
  · intro V hV; clear hV; go_simp; try (with_reducible rfl)
  try simp only [Act.put, List.getElem_toArray, List.getElem_cons_succ, List.getElem_cons_zero, List.setIfInBounds_toArray, List.set_cons_zero, List.set_cons_succ]
  refine wpAnyH_take (i := 19) (v := ?_) rfl (by kernel_rfl) (by kernel_rfl) (by kernel_rfl) (fun _ _ _ h => h) (Or.inl ⟨by kernel_rfl, ?_⟩) (by assumption) ?_
  rotate_left
  · intro V hV; clear hV; go_simp; try (with_reducible rfl)
  try simp only [Act.put, List.getElem_toArray, List.getElem_cons_succ, List.getElem_cons_zero, List.setIfInBounds_toArray, List.set_cons_zero, List.set_cons_succ]
  refine wpAnyH_take (i := 20) (v := ?_) rfl (by kernel_rfl) (by kernel_rfl) (by kernel_rfl) (fun _ _ _ h => h) (Or.inl ⟨by kernel_rfl, ?_⟩) (by assumption) ?_
  rotate_left
  · intro V hV; clear hV; go_simp; try (with_reducible rfl)
  try simp only [Act.put, List.getElem_toArray, List.getElem_cons_succ, List.getElem_cons_zero, List.setIfInBounds_toArray, List.set_cons_zero, List.set_cons_succ]
  refine wpAnyH_take (i := 21) (v := ?_) rfl (by kernel_rfl) (by kernel_rfl) (by kernel_rfl) (fun _ _ _ h => h) (Or.inl ⟨by kernel_rfl, ?_⟩) (by assumption) ?_
  rotate_left
  · intro V hV; clear hV; go_simp; try (with_reducible rfl)
  try simp only [Act.put, List.getElem_toArray, List.getElem_cons_succ, List.getElem_cons_zero, List.setIfInBounds_toArray, List.set_cons_zero, List.set_cons_succ]
  refine wpAnyH_take (i := 22) (v := ?_) rfl (by kernel_rfl) (by kernel_rfl) (by kernel_rfl) (fun _ _ _ h => h) (Or.inl ⟨by kernel_rfl, ?_⟩) (by assumption) ?_
  rotate_left
  · intro V hV; clear hV; go_simp; try (with_reducible rfl)
  try simp only [Act.put, List.getElem_toArray, List.getElem_cons_succ, List.getElem_cons_zero, List.setIfInBounds_toArray, List.set_cons_zero, List.set_cons_succ]
  refine wpAnyH_done (by kernel_rfl) ?_ _
  clear S6
  go_wp2_with fail
  go_ret
  exact ⟨by first | rfl | simp, B6.out⟩
theorem bytes_walk (a : Option Addr) (len cap : Nat) (b : Option Addr) (len1 cap1 : Nat) (w : World) (w0 : ReadsC w 25 [.slice a len cap]) (w1 : ReadsC w 42 [.slice b len1 cap1]) (hL : LibW w) :
    Calls Tryz.prog 5 #[.slice a len cap, .slice b len1 cap1] w fun e w' => e = .returned (.bool true) ∧ Below w.heap.size w w' := by
  obtain ⟨h1, h2, ls, rfl, hA, hok⟩ := reads_inss w0
  obtain ⟨b1, b2, X, hX, hl⟩ := reads_bytes w1
  unfold maxLen at h2 b2
  exact bytes_law ls X a cap b len1 cap1 w hA hok (by omega) hX hl (by omega) b1 (by omega) hL
end Go.Proofs.YtalmgjeiopjhlaaGreatDoor
