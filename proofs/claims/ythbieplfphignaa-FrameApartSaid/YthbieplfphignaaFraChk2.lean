/- The document's Check. -/
import Derived.Test.YthbieplfphignaaFraChk
namespace Go.Proofs.Ythbieplfphignaa
open Go.RowKit Go.Shelf
set_option linter.unusedVariables false
/-- Where the slots ahead of the n-th end. -/
def atE (S : Nat → SlotR) (sw : Nat) : Nat → Nat
  | 0 => 0
  | n + 1 => (S n).start + sw + (S n).budget
def frB2 (S : Nat → SlotR) (sw : Nat) : Nat → Bool
  | 0 => false
  | n + 1 => frB2 S sw n || decide ((S n).start < atE S sw n)
theorem atE_le {S : Nat → SlotR} (h : ∀ i, (S i).ok) (sw : Nat) (hsw : sw < 4294967296) (n : Nat) : atE S sw n < 12884901888 := by
  cases n with
  | zero => show 0 < _; omega
  | succ n => show (S n).start + sw + (S n).budget < _; have := (h n).2.1; have := (h n).2.2; omega
theorem frB_below {S : Nat → SlotR} {L sw len : Nat} : ∀ {n : Nat}, n < len → frB2 S sw (n + 1) = false → frB S L sw len n = false
  | 0, _, _ => rfl
  | n + 1, hn, h => by
    have h1 : (frB2 S sw (n + 1) || decide ((S (n + 1)).start < atE S sw (n + 1))) = false := h
    simp only [Bool.or_eq_false_iff, decide_eq_false_iff_not] at h1
    show (frB S L sw len n || decide (nextF S L len n < endF S sw n)) = false
    rw [frB_below (by omega) h1.1]
    have h2 : ¬ (S (n + 1)).start < (S n).start + sw + (S n).budget := h1.2
    unfold nextF endF
    rw [if_pos hn]
    simpa using h2
theorem chk_frame2 {S : Nat → SlotR} {L sw len : Nat} {parts : Int} {k : Nat} (h : ¬ (L < 1 ∨ 16777216 < L ∨ 16 < len)) (hs : slB S parts len = false) (hk : k < len) (hb : (S k).start < atE S sw k) : chkV S L sw len parts = 170 := by
  cases k with
  | zero => exact absurd hb (Nat.not_lt_zero _)
  | succ k =>
    refine chk_frame h hs (show k < len by omega) ?_
    unfold nextF endF
    rw [if_pos hk]
    exact hb
theorem chk_last {S : Nat → SlotR} {L sw len : Nat} {parts : Int} (h : ¬ (L < 1 ∨ 16777216 < L ∨ 16 < len)) (hs : slB S parts len = false) (hb : L < atE S sw len) : chkV S L sw len parts = 170 := by
  cases len with
  | zero => exact absurd hb (Nat.not_lt_zero _)
  | succ k =>
    refine chk_frame h hs (Nat.lt_succ_self k) ?_
    unfold nextF endF
    rw [if_neg (by omega)]
    exact hb
theorem chk_fine {S : Nat → SlotR} {L sw len : Nat} {parts : Int} (h : ¬ (L < 1 ∨ 16777216 < L ∨ 16 < len)) (hs : slB S parts len = false) (hf : frB2 S sw len = false) (hb : ¬ L < atE S sw len) : chkV S L sw len parts = 0 := by
  refine chk_ok h hs ?_
  cases len with
  | zero => rfl
  | succ k =>
    show (frB S L sw (k + 1) k || decide (nextF S L (k + 1) k < endF S sw k)) = false
    rw [frB_below (Nat.lt_succ_self k) hf]
    unfold nextF endF
    rw [if_neg (by omega)]
    have hb2 : ¬ L < (S k).start + sw + (S k).budget := hb
    simpa using hb2
set_option maxHeartbeats 4000000 in
theorem refCheck_any (L sw : Nat) (a : Option Addr) (len cap : Nat) (S : Nat → SlotR) (parts : Int) (w : World) (hm : len ≤ 9223372036854775807) (hL : L < 4294967296) (hsw : sw < 4294967296) (hq0 : -9223372036854775808 ≤ parts) (hq1 : parts ≤ 9223372036854775807) (hS : SlotsAt w a len S) :
    Calls Try.prog 14 #[.agg #[.int .u32 (L : Int), .int .u32 (sw : Int), .slice a len cap], .int .i64 parts] w fun e W' => e = .returned (.int .i64 (chkV S L sw len parts)) ∧ Below w.heap.size w W' := by
  have HI := Lib.hid hS
  clear hS
  by_cases g1 : L < 1
  · obtain rfl : L = 0 := by omega
    have hV := Lib.hid (chk_arg (S := S) (L := 0) (sw := sw) (len := len) (parts := parts) (.inl (by omega)))
    go_enter Try.func14, Try.ntmps14
    go_wp2_with fail
    go_ret
    exact ⟨by rw [hV.out]; rfl, below_box _ _⟩
  · have u1 : decide ((L : Int) < 1) = false := by simp; omega
    have u1' : ((L : Int) == 0) = false := by simp; omega
    by_cases g2 : 16777216 < L
    · have hV := Lib.hid (chk_arg (S := S) (L := L) (sw := sw) (len := len) (parts := parts) (.inr (.inl g2)))
      have u2 : decide ((16777216 : Int) < (L : Int)) = true := by simp; omega
      go_enter Try.func14, Try.ntmps14
      go_wp2_with fail
      go_ret
      exact ⟨by rw [hV.out]; rfl, below_box _ _⟩
    · have u2 : decide ((16777216 : Int) < (L : Int)) = false := by simp; omega
      by_cases g3 : 16 < len
      · have hV := Lib.hid (chk_arg (S := S) (L := L) (sw := sw) (len := len) (parts := parts) (.inr (.inr g3)))
        have u3 : decide ((16 : Int) < (len : Int)) = true := by simp; omega
        go_enter Try.func14, Try.ntmps14
        go_wp2_with fail
        go_ret
        exact ⟨by rw [hV.out]; rfl, below_box _ _⟩
      · have u3 : decide ((16 : Int) < (len : Int)) = false := by simp; omega
        have hN : Hid (¬ (L < 1 ∨ 16777216 < L ∨ 16 < len)) := by show ¬ _; omega
        go_enter Try.func14, Try.ntmps14
        go_wp2_with fail
        clear u1 u1' u2 u3
        have hH := Lib.hid (Held.new w #[.int .u32 (L : Int), .int .u32 (sw : Int), .slice a len cap] 25)
        have hB := Lib.hid (below_box w (.cells #[.int .u32 (L : Int), .int .u32 (sw : Int), .slice a len cap] 25))
        go_loopw [5] (fun i wr => ∃ k : Nat, k ≤ len ∧ i = .int .i64 k ∧ slB S parts k = false ∧ Held wr w.heap.size #[.int .u32 (L : Int), .int .u32 (sw : Int), .slice a len cap] 25 ∧ Below w.heap.size w wr) (fun i _ => len - (intOf i).toNat)
        case atStart => exact ⟨0, Nat.zero_le _, rfl, rfl, hH.out, hB.out⟩
        case round =>
          clear hH hB
          obtain ⟨k, hk, rfl, hb, h1, h2⟩ := hrel
          have hA := Lib.hid hb; have hH := Lib.hid h1; have hB := Lib.hid h2
          have d0 : wr.cell? ⟨w.heap.size, 0, none⟩ = some (.int .u32 (L : Int)) := h1.cell 0 _ rfl
          have d1 : wr.cell? ⟨w.heap.size, 1, none⟩ = some (.int .u32 (sw : Int)) := h1.cell 1 _ rfl
          have d2 : wr.cell? ⟨w.heap.size, 2, none⟩ = some (.slice a len cap) := h1.cell 2 _ rfl
          clear hb h1 h2
          have hne := hB.out.size
          have hlt0 := hH.out.lt
          by_cases hlt : k < len
          · obtain ⟨b, off, rfl, hbl, hcells⟩ := HI.out.1.at (show 0 < len by omega)
            obtain ⟨⟨hp0, hp1⟩, hs1, hs2⟩ := HI.out.2 k
            have c0 : wr.cell? ⟨b, off + k * 3, none⟩ = some (.int .i64 (S k).part) := by rw [hB.out.cell hbl]; exact hcells k hlt 0 (by omega)
            have c1 : wr.cell? ⟨b, off + k * 3 + 1, none⟩ = some (.int .u32 ((S k).start : Int)) := by rw [hB.out.cell hbl]; exact hcells k hlt 1 (by omega)
            have c2 : wr.cell? ⟨b, off + k * 3 + 2, none⟩ = some (.int .u32 ((S k).budget : Int)) := by rw [hB.out.cell hbl]; exact hcells k hlt 2 (by omega)
            have i1 : (k : Int) < (len : Int) := by omega
            clear hcells
            have HS : Hid (slOk (S k) parts = false → chkV S L sw len parts = 2) := fun h => chk_slot hlt h
            have HG : Hid (slOk (S k) parts = true → slB S parts (k + 1) = false) := fun h => by show (slB S parts k || !slOk (S k) parts) = false; rw [hA.out, h]; rfl
            unfold slOk at HS HG
            generalize (S k).part = P at *
            generalize (S k).start = st at *
            generalize (S k).budget = bu at *
            by_cases q1 : P < 0
            · have r1 : decide (P < 0) = true := by simpa using q1
              have hV := Lib.hid (HS.out (by simp; omega))
              clear HS HG
              go_wp2_with fail
              go_ret
              exact ⟨by rw [hV.out]; rfl, hB.out.alloc hne _⟩
            · have r1 : decide (P < 0) = false := by simpa using q1
              by_cases q2 : parts ≤ P
              · have r2 : decide (parts ≤ P) = true := by simpa using q2
                have hV := Lib.hid (HS.out (by simp; omega))
                clear HS HG
                go_wp2_with fail
                go_ret
                exact ⟨by rw [hV.out]; rfl, hB.out.alloc hne _⟩
              · have r2 : decide (parts ≤ P) = false := by simpa using q2
                by_cases q3 : bu < 1
                · obtain rfl : bu = 0 := by omega
                  have hV := Lib.hid (HS.out (by simp))
                  clear HS HG
                  go_wp2_with fail
                  go_ret
                  exact ⟨by rw [hV.out]; rfl, hB.out.alloc hne _⟩
                · have r3 : decide ((bu : Int) < 1) = false := by simp; omega
                  have r3' : ((bu : Int) == 0) = false := by simp; omega
                  by_cases q4 : 1048576 < bu
                  · have r4 : decide ((1048576 : Int) < (bu : Int)) = true := by simp; omega
                    have hV := Lib.hid (HS.out (by simp; omega))
                    clear HS HG
                    go_wp2_with fail
                    go_ret
                    exact ⟨by rw [hV.out]; rfl, hB.out.alloc hne _⟩
                  · have r4 : decide ((1048576 : Int) < (bu : Int)) = false := by simp; omega
                    have hG := Lib.hid (HG.out (by simp; omega))
                    clear HS HG
                    go_wp2_with fail
                    go_roundw
                    case rel => exact ⟨k + 1, by omega, by go_num, hG.out, hH.out.alloc _, hB.out.alloc hne _⟩
                    case measure => simp [intOf]; omega
          · obtain rfl : k = len := by omega
            have hSB := hA
            clear hA
            go_wp2_with fail
            go_loopw [7, 8] (fun at_ i wr => ∃ j : Nat, j ≤ k ∧ i = .int .i64 j ∧ frB2 S sw j = false ∧ at_ = .int .u64 (atE S sw j : Nat) ∧ Held wr w.heap.size #[.int .u32 (L : Int), .int .u32 (sw : Int), .slice a k cap] 25 ∧ Below w.heap.size w wr) (fun _ i _ => k - (intOf i).toNat)
            case atStart => exact ⟨0, Nat.zero_le _, rfl, rfl, rfl, hH.out, hB.out⟩
            case round =>
              clear hH hB d0 d1 d2 hne hlt0
              obtain ⟨j, hj, rfl, hb, rfl, h1, h2⟩ := hrel
              have hA := Lib.hid hb; have hH := Lib.hid h1; have hB := Lib.hid h2
              have d0 : wr.cell? ⟨w.heap.size, 0, none⟩ = some (.int .u32 (L : Int)) := h1.cell 0 _ rfl
              have d1 : wr.cell? ⟨w.heap.size, 1, none⟩ = some (.int .u32 (sw : Int)) := h1.cell 1 _ rfl
              have d2 : wr.cell? ⟨w.heap.size, 2, none⟩ = some (.slice a k cap) := h1.cell 2 _ rfl
              clear hb h1 h2
              have hne := hB.out.size
              have hlt0 := hH.out.lt
              have hae := atE_le HI.out.2 sw hsw j
              by_cases hlt : j < k
              · obtain ⟨b, off, rfl, hbl, hcells⟩ := HI.out.1.at (show 0 < k by omega)
                obtain ⟨⟨hp0, hp1⟩, hs1, hs2⟩ := HI.out.2 j
                have c0 : wr.cell? ⟨b, off + j * 3, none⟩ = some (.int .i64 (S j).part) := by rw [hB.out.cell hbl]; exact hcells j hlt 0 (by omega)
                have c1 : wr.cell? ⟨b, off + j * 3 + 1, none⟩ = some (.int .u32 ((S j).start : Int)) := by rw [hB.out.cell hbl]; exact hcells j hlt 1 (by omega)
                have c2 : wr.cell? ⟨b, off + j * 3 + 2, none⟩ = some (.int .u32 ((S j).budget : Int)) := by rw [hB.out.cell hbl]; exact hcells j hlt 2 (by omega)
                have i1 : (j : Int) < (k : Int) := by omega
                have HS : Hid ((S j).start < atE S sw j → chkV S L sw k parts = 170) := fun h => chk_frame2 hN.out hSB.out hlt h
                have HG : Hid (¬ (S j).start < atE S sw j → frB2 S sw (j + 1) = false) := fun h => by show (frB2 S sw j || decide ((S j).start < atE S sw j)) = false; rw [hA.out, decide_eq_false h]; rfl
                have HA : Hid (atE S sw (j + 1) = (S j).start + sw + (S j).budget) := rfl
                clear hcells
                generalize atE S sw j = E at *
                generalize (S j).part = P at *
                generalize (S j).start = st at *
                generalize (S j).budget = bu at *
                by_cases qe : st < E
                · have re : decide ((st : Int) < (E : Int)) = true := by simp; omega
                  have re' : decide (st < E) = true := by simpa using qe
                  have hV := Lib.hid (HS.out qe)
                  clear HS HG qe
                  go_wp2_with fail
                  go_ret
                  exact ⟨by rw [hV.out]; rfl, hB.out.alloc hne _⟩
                · have re : decide ((st : Int) < (E : Int)) = false := by simp; omega
                  have re' : decide (st < E) = false := by simpa using qe
                  have hG := Lib.hid (HG.out qe)
                  clear HS HG qe
                  go_wp2_with fail
                  go_roundw
                  case rel => exact ⟨j + 1, by omega, by go_num, hG.out, by rw [HA.out]; go_num, hH.out.alloc _, hB.out.alloc hne _⟩
                  case measure => simp [intOf]; omega
              · obtain rfl : j = k := by omega
                have HE : Hid (L < atE S sw j → chkV S L sw j parts = 170) := fun h => chk_last hN.out hSB.out h
                have HO : Hid (¬ L < atE S sw j → chkV S L sw j parts = 0) := fun h => chk_fine hN.out hSB.out hA.out h
                generalize atE S sw j = E at *
                by_cases qe : L < E
                · have re : decide ((L : Int) < (E : Int)) = true := by simp; omega
                  have re' : decide (L < E) = true := by simpa using qe
                  have hV := Lib.hid (HE.out qe)
                  clear HE HO qe
                  go_wp2_with fail
                  go_ret
                  exact ⟨by rw [hV.out]; rfl, hB.out⟩
                · have re : decide ((L : Int) < (E : Int)) = false := by simp; omega
                  have re' : decide (L < E) = false := by simpa using qe
                  have hV := Lib.hid (HO.out qe)
                  clear HE HO qe
                  go_wp2_with fail
                  go_ret
                  exact ⟨by rw [hV.out]; rfl, hB.out⟩
end Go.Proofs.Ythbieplfphignaa
