/- The reference's May, and how the two monitors stay alike. -/
import Derived.Test.YtfbbmapihgepmaaHeaRefEv
namespace Go.Proofs.Ytfbbmapihgepmaa
open Go.RowKit
set_option linter.unusedVariables false
def mayV (D : Nat → HDef) (len : Nat) : Bool := decide (len ≤ 8) && !anyBad D len
theorem mayV_check (D : Nat → HDef) (len : Nat) : mayV D len = decide (checkV D len = 0) := by
  unfold mayV checkV
  by_cases h : len ≤ 8
  · cases hb : anyBad D len <;> simp [h] <;> try omega
  · simp [h]; try omega
theorem mayV_bad {D : Nat → HDef} {k len : Nat} (hk : k < len) (hd : ¬ (1 ≤ (D k).trap ∧ (D k).trap ≤ 3 ∧ 1 ≤ (D k).over ∧ (D k).over ≤ 3)) : mayV D len = false := by
  have : okDef (D k) = false := by
    unfold okDef okAct
    by_cases h1 : 1 ≤ (D k).trap <;> by_cases h2 : (D k).trap ≤ 3 <;> by_cases h3 : 1 ≤ (D k).over <;> by_cases h4 : (D k).over ≤ 3 <;> simp [h1, h2, h3, h4]
    exact hd ⟨h1, h2, h3, h4⟩
  unfold mayV
  rw [anyBad_of hk this]; simp
set_option maxHeartbeats 2000000 in
theorem refMay_any (a : Option Addr) (len cap : Nat) (D : Nat → HDef) (w : World) (hm : len ≤ 9223372036854775807) (h : DefsAt w a len D) :
    Calls Try.prog 8 #[.slice a len cap] w fun e w' => e = .returned (.bool (mayV D len)) ∧ w = w' := by
  have H := Lib.hid h
  clear h
  go_enter Try.func8, Try.ntmps8
  go_wp2_with fail
  go_loop [3] (fun i => ∃ k : Nat, k ≤ len ∧ k ≤ 8 ∧ i = .int .i64 k ∧ anyBad D k = false) (fun i => len - (intOf i).toNat)
  case atStart => exact ⟨0, Nat.zero_le _, by omega, rfl, rfl⟩
  case round =>
    obtain ⟨k, hk, hk8, rfl, hb⟩ := hrel
    have HA := Lib.hid hb
    clear hb
    by_cases hlt : k < len
    · by_cases h8 : 8 ≤ k
      · have t1 : decide ((8 : Int) ≤ (k : Int)) = true := by simp; omega
        have HV : Hid (mayV D len = false) := by show mayV D len = false; unfold mayV; simp; intro; omega
        go_wp2_with fail
        go_ret
        exact ⟨(by rw [HV.out]; try rfl), rfl⟩
      · have t1 : decide ((8 : Int) ≤ (k : Int)) = false := by simp; omega
        obtain ⟨b, off, rfl, hbl, hcells⟩ := H.out.1.at (by omega)
        have c0 : w.cell? ⟨b, off + k * 3, none⟩ = some (.int .u8 ((D k).trap : Int)) := hcells k hlt 0 (by omega)
        have c1 : w.cell? ⟨b, off + k * 3 + 1, none⟩ = some (.int .u8 ((D k).over : Int)) := hcells k hlt 1 (by omega)
        have HB := Lib.hid (fun hd => mayV_bad (D := D) hlt hd)
        have HG : Hid ((1 ≤ (D k).trap ∧ (D k).trap ≤ 3 ∧ 1 ≤ (D k).over ∧ (D k).over ≤ 3) → anyBad D (k + 1) = false) := by
          show _ → (anyBad D k || !okDef (D k)) = false
          rintro ⟨x1, x2, x3, x4⟩
          rw [HA.out]; simp [okDef, okAct, x1, x2, x3, x4]
        clear hcells
        generalize (D k).trap = T at *
        generalize (D k).over = O at *
        by_cases q1 : 1 ≤ T
        · have r1 : decide ((T : Int) < 1) = false := by simp; omega
          by_cases q2 : T ≤ 3
          · have r2 : decide ((3 : Int) < (T : Int)) = false := by simp; omega
            by_cases q3 : 1 ≤ O
            · have r3 : decide ((O : Int) < 1) = false := by simp; omega
              by_cases q4 : O ≤ 3
              · have r4 : decide ((3 : Int) < (O : Int)) = false := by simp; omega
                have HG2 := Lib.hid (HG.out ⟨q1, q2, q3, q4⟩)
                clear HG HB
                go_wp2_with fail
                go_round
                case rel => exact ⟨k + 1, by omega, by omega, by go_num, HG2.out⟩
                case measure => simp [intOf]; omega
              · have r4 : decide ((3 : Int) < (O : Int)) = true := by simp; omega
                have HV := Lib.hid (HB.out (by omega))
                clear HG HB
                go_wp2_with fail
                go_ret
                exact ⟨(by rw [HV.out]; try rfl), rfl⟩
            · have r3 : decide ((O : Int) < 1) = true := by simp; omega
              have HV := Lib.hid (HB.out (by omega))
              clear HG HB
              go_wp2_with fail
              go_ret
              exact ⟨(by rw [HV.out]; try rfl), rfl⟩
          · have r2 : decide ((3 : Int) < (T : Int)) = true := by simp; omega
            have HV := Lib.hid (HB.out (by omega))
            clear HG HB
            go_wp2_with fail
            go_ret
            exact ⟨(by rw [HV.out]; try rfl), rfl⟩
        · have r1 : decide ((T : Int) < 1) = true := by simp; omega
          have HV := Lib.hid (HB.out (by omega))
          clear HG HB
          go_wp2_with fail
          go_ret
          exact ⟨(by rw [HV.out]; try rfl), rfl⟩
    · obtain rfl : k = len := by omega
      have HV : Hid (mayV D k = true) := by show mayV D k = true; unfold mayV; rw [HA.out]; simp; omega
      go_wp2_with fail
      go_ret
      exact ⟨(by rw [HV.out]; try rfl), rfl⟩

theorem EvFrame.ofBelow {r : Nat} {w w' : World} (hb : Below w.heap.size w w') (hr : r ≤ w.heap.size) : EvFrame r w w' := ⟨hb.size, fun k hk _ _ => hb.block k hk, hb.mono hr⟩
theorem runs_there {S : HMon} {p : Int} (h : S.runs p = true) : S.there p = true := by
  unfold HMon.runs at h
  cases ht : S.there p with
  | true => rfl
  | false => rw [ht] at h; simp at h
theorem RInv.event {D : Nat → HDef} {len : Nat} {S : HMon} {es : Evs} {sf : Bool} (h : RInv D len S es sf) (i kind : Nat) (hi : i < len) (hs : S.safe = false) :
    RInv D len (S.event i kind) (es ++ [((i : Int), (S.l i).act kind)]) (decide ((S.l i).act kind = 3)) := by
  have hc : ∀ (j : Nat) (x : Nat), cnt (es ++ [((i : Int), (S.l i).act kind)]) (j : Int) x = cnt es (j : Int) x + (if i = j ∧ (S.l i).act kind = x then 1 else 0) := by
    intro j x
    rw [cnt_snoc]
    congr 1
    by_cases hx : i = j ∧ (S.l i).act kind = x
    · rw [if_pos hx, if_pos (by simp; omega)]
    · rw [if_neg hx, if_neg (by simp; omega)]
  have hpart : ∀ e, e ∈ es ++ [((i : Int), (S.l i).act kind)] → ∃ j : Nat, j < len ∧ e.1 = (j : Int) := by
    intro e he
    rcases List.mem_append.1 he with h1 | h1
    · exact h.parts e h1
    · simp at h1; subst h1; exact ⟨i, hi, rfl⟩
  have hh := h.halted
  have hr := h.rs
  unfold HMon.event
  generalize (S.l i).act kind = act at *
  by_cases h1 : act = 1
  · subst h1
    simp only [if_true]
    refine ⟨h.n, fun j hj => ?_, hs, fun j hj => ?_, fun j hj => ?_, hpart⟩
    · simp only [HMon.setPart]; split
      · next e => subst e; exact h.d _ hj
      · exact h.d _ hj
    · rw [hc]
      simp only [HMon.setPart]
      by_cases e : j = i
      · subst e; simp
      · rw [if_neg e, if_neg (by omega), Nat.add_zero]; exact hh j hj
    · rw [hc, if_neg (by omega), Nat.add_zero]
      simp only [HMon.setPart]; split
      · next e => subst e; exact hr _ hj
      · exact hr _ hj
  · by_cases h2 : act = 2
    · subst h2
      simp only [show (2 : Nat) ≠ 1 from by omega, if_false, if_true]
      refine ⟨h.n, fun j hj => ?_, hs, fun j hj => ?_, fun j hj => ?_, hpart⟩
      · simp only [HMon.setPart]; split
        · next e => subst e; exact h.d _ hj
        · exact h.d _ hj
      · rw [hc, if_neg (by omega), Nat.add_zero]
        simp only [HMon.setPart]; split
        · next e => subst e; exact hh _ hj
        · exact hh _ hj
      · rw [hc]
        simp only [HMon.setPart]
        by_cases e : j = i
        · subst e; simp [hr j hj]
        · rw [if_neg e, if_neg (by omega), Nat.add_zero]; exact hr j hj
    · rw [if_neg h1, if_neg h2]
      have k1 : ∀ j : Nat, cnt (es ++ [((i : Int), act)]) (j : Int) 1 = cnt es (j : Int) 1 := fun j => by rw [hc, if_neg (by omega), Nat.add_zero]
      have k2 : ∀ j : Nat, cnt (es ++ [((i : Int), act)]) (j : Int) 2 = cnt es (j : Int) 2 := fun j => by rw [hc, if_neg (by omega), Nat.add_zero]
      by_cases h3 : act = 3
      · rw [if_pos h3]
        exact ⟨h.n, h.d, by simp [h3], fun j hj => by rw [k1]; exact hh j hj, fun j hj => by rw [k2]; exact hr j hj, hpart⟩
      · rw [if_neg h3]
        exact ⟨h.n, h.d, by simp [h3, hs], fun j hj => by rw [k1]; exact hh j hj, fun j hj => by rw [k2]; exact hr j hj, hpart⟩
def RefPost (w : World) (r : Nat) (a : Option Addr) (len cap : Nat) (D : Nat → HDef) (es : Evs) (V : Nat × Int × HMon) (e : Ending) (w' : World) : Prop :=
  e = .returned (.tuple #[.int .u8 (V.1 : Int), .int .i64 V.2.1]) ∧ EvFrame r w w' ∧ ∃ es' sf', RefAt w' r a len cap es' sf' ∧ RInv D len V.2.2 es' sf' ∧ es'.length ≤ es.length + 1
theorem refEvent_gen (r : Nat) (a : Option Addr) (len cap : Nat) (es : Evs) (sf : Bool) (D : Nat → HDef) (S : HMon) (p : Int) (kind : Nat) (r1 r2 r3 : Value) (w : World) (h : RefAt w r a len cap es sf) (hI : RInv D len S es sf) (hn : es.length ≤ 1000)
    (hcap : len ≤ cap) (hk : kind < 256) (w0 : World) (hD : DefsAt w0 a len D) (hB : Below w0.heap.size w0 w) (hbr : w0.heap.size ≤ r) :
    Calls Try.prog 11 #[.pointer (some ⟨r, 0, none⟩), .int .i64 p, .agg #[.int .u8 (kind : Int), r1, r2, r3]] w (RefPost w r a len cap D es (S.ev p kind)) := by
  have hr0 := hI.runs p
  have hthere : S.there p = (decide (0 ≤ p) && decide (p < (len : Int))) := by unfold HMon.there; rw [hI.n]
  cases ht : S.there p with
  | false =>
    have hev : S.ev p kind = (0, 4, S) := by unfold HMon.ev; rw [if_pos ht]
    rw [hev]
    refine (refEvent_none r a len cap es sf p _ r1 r2 r3 w h ?_).mono ?_
    · rw [ht] at hthere
      intro hp
      have := hthere
      simp [hp.1, hp.2] at this
    · rintro e w' ⟨rfl, hB⟩
      exact ⟨rfl, EvFrame.ofBelow hB (Nat.le_of_lt h.lt), es, sf, h.below hB, hI, by omega⟩
  | true =>
    obtain ⟨i, rfl, hi⟩ := there_nat ht
    have hi' : i < len := by rw [← hI.n]; exact hi
    rw [hthere] at hr0
    cases hr : S.runs (i : Int) with
    | false =>
      have hev : S.ev (i : Int) kind = (0, 6, S) := by unfold HMon.ev; rw [if_neg (by rw [ht]; simp), if_pos hr]
      rw [hev]
      refine (refEvent_state r a len cap es sf i _ r1 r2 r3 w h (by omega) hi' (hr.symm.trans hr0)).mono ?_
      rintro e w' ⟨rfl, hB⟩
      exact ⟨rfl, EvFrame.ofBelow hB (Nat.le_of_lt h.lt), es, sf, h.below hB, hI, by omega⟩
    | true =>
      have hev : S.ev (i : Int) kind = ((S.l i).act kind, 0, S.event i kind) := by unfold HMon.ev; rw [if_neg (by rw [ht]; simp), if_neg (by rw [hr]; simp), Int.toNat_natCast]
      have hsf : sf = false := by
        cases sf with
        | false => rfl
        | true => rw [hr] at hr0; simp at hr0
      subst hsf
      have hss : S.safe = false := hI.safe
      obtain ⟨b, off, rfl, hbl, hcells⟩ := hD.1.at (show 0 < len by omega)
      obtain ⟨d1, d2, d3⟩ := hD.2 i hi'
      have hact : (S.l i).act kind = ({ d := D i, halted := false, rs := cnt es (i : Int) 2 } : HPart).act kind := by
        unfold HPart.act HPart.raw
        rw [hI.d i hi', hI.rs i hi']
      rw [hev]
      refine (refEvent_runs r _ len cap es i kind (D i) ((S.l i).act kind) r1 r2 r3 w h (by omega) hi' hcap hk (hr.symm.trans hr0) b off rfl (by omega) ((hB.cell hbl).trans (hcells i hi' 0 (by omega))) ((hB.cell hbl).trans (hcells i hi' 1 (by omega))) ((hB.cell hbl).trans (hcells i hi' 2 (by omega))) d1 d2 d3 hact).mono ?_
      rintro e w' ⟨rfl, hR, hF⟩
      exact ⟨rfl, hF, _, _, hR, hI.event i kind hi' hss, by simp⟩
theorem refRestarts_is (r : Nat) (a : Option Addr) (len cap : Nat) (es : Evs) (sf : Bool) (p : Int) (c : Nat) (w : World) (h : RefAt w r a len cap es sf) (hn : es.length ≤ 1000) (hc : cnt es p 2 = c) :
    Calls Try.prog 19 #[.pointer (some ⟨r, 0, none⟩), .int .i64 p] w fun e w' => e = .returned (.int .u32 (c : Int)) ∧ w = w' := by
  subst hc; exact refRestarts_any r a len cap es sf p w h (by omega)
theorem RInv.start (D : Nat → HDef) (len : Nat) : RInv D len (newMon D len len) [] false := by
  refine ⟨rfl, fun i hi => ?_, rfl, fun i hi => ?_, fun i hi => ?_, fun e he => by simp at he⟩ <;> simp [newMon, hi, cnt]
theorem RInv.reset {D : Nat → HDef} {len : Nat} {S : HMon} {es : Evs} {sf : Bool} (h : RInv D len S es sf) (h8 : len ≤ 8) : RInv D len (rstMon S 8) [] false := by
  refine ⟨h.n, fun i hi => ?_, rfl, fun i hi => ?_, fun i hi => ?_, fun e he => by simp at he⟩
  · simp only [rstMon]; split <;> exact h.d i hi
  · simp [rstMon, cnt, show i < 8 by omega]
  · simp [rstMon, cnt, show i < 8 by omega]
theorem RInv.fail {D : Nat → HDef} {len : Nat} {S : HMon} {es : Evs} {sf : Bool} (h : RInv D len S es sf) : RInv D len { S with safe := true } es true := ⟨h.n, h.d, rfl, h.halted, h.rs, h.parts⟩
theorem Fits.reset {S : HMon} {k : Nat} (h : Fits S k) : Fits (rstMon S 8) (k + 1) := by
  refine ⟨h.n8, fun i hi => ?_, fun i hi => ?_⟩
  · simp only [rstMon]; split <;> exact h.d i hi
  · simp [rstMon, show i < 8 by have := h.n8; have : i < S.n := hi; omega]
theorem Fits.fail {S : HMon} {k : Nat} (h : Fits S k) : Fits { S with safe := true } (k + 1) := ⟨h.n8, h.d, fun i hi => by have := h.rs i hi; simp; omega⟩
end Go.Proofs.Ytfbbmapihgepmaa
