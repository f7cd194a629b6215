/- frame.Check and the document's. -/
import Derived.Test.YthbieplfphignaaFraOf
namespace Go.Proofs.Ythbieplfphignaa
open Go.RowKit Go.Shelf
set_option linter.unusedVariables false
def slOk (s : SlotR) (parts : Int) : Bool := decide (0 ≤ s.part) && decide (s.part < parts) && decide (1 ≤ s.budget) && decide (s.budget ≤ 1048576)
def slB (S : Nat → SlotR) (parts : Int) : Nat → Bool
  | 0 => false
  | n + 1 => slB S parts n || !slOk (S n) parts
theorem slB_of {S : Nat → SlotR} {parts : Int} {k n : Nat} (hk : k < n) (hb : slOk (S k) parts = false) : slB S parts n = true := by
  induction n with
  | zero => omega
  | succ n ih =>
    show (slB S parts n || !slOk (S n) parts) = true
    by_cases e : k = n
    · subst e; rw [hb]; simp
    · rw [ih (by omega)]; rfl
def endF (S : Nat → SlotR) (sw n : Nat) : Nat := (S n).start + sw + (S n).budget
def nextF (S : Nat → SlotR) (L len n : Nat) : Nat := if n + 1 < len then (S (n + 1)).start else L
def frB (S : Nat → SlotR) (L sw len : Nat) : Nat → Bool
  | 0 => false
  | n + 1 => frB S L sw len n || decide (nextF S L len n < endF S sw n)
theorem frB_of {S : Nat → SlotR} {L sw len k n : Nat} (hk : k < n) (hb : nextF S L len k < endF S sw k) : frB S L sw len n = true := by
  induction n with
  | zero => omega
  | succ n ih =>
    show (frB S L sw len n || decide (nextF S L len n < endF S sw n)) = true
    by_cases e : k = n
    · subst e; simp [hb]
    · rw [ih (by omega)]; rfl
def chkV (S : Nat → SlotR) (L sw len : Nat) (parts : Int) : Int :=
  if L < 1 ∨ 16777216 < L ∨ 16 < len then 2 else if slB S parts len = true then 2 else if frB S L sw len len = true then 170 else 0
theorem chk_arg {S : Nat → SlotR} {L sw len : Nat} {parts : Int} (h : L < 1 ∨ 16777216 < L ∨ 16 < len) : chkV S L sw len parts = 2 := by unfold chkV; rw [if_pos h]
theorem chk_slot {S : Nat → SlotR} {L sw len : Nat} {parts : Int} {k : Nat} (hk : k < len) (hb : slOk (S k) parts = false) : chkV S L sw len parts = 2 := by
  unfold chkV
  split
  · rfl
  · rw [if_pos (slB_of hk hb)]
theorem chk_frame {S : Nat → SlotR} {L sw len : Nat} {parts : Int} {k : Nat} (h : ¬ (L < 1 ∨ 16777216 < L ∨ 16 < len)) (hs : slB S parts len = false) (hk : k < len) (hb : nextF S L len k < endF S sw k) : chkV S L sw len parts = 170 := by
  unfold chkV
  rw [if_neg h, if_neg (by rw [hs]; simp), if_pos (frB_of hk hb)]
theorem chk_ok {S : Nat → SlotR} {L sw len : Nat} {parts : Int} (h : ¬ (L < 1 ∨ 16777216 < L ∨ 16 < len)) (hs : slB S parts len = false) (hb : frB S L sw len len = false) : chkV S L sw len parts = 0 := by
  unfold chkV
  rw [if_neg h, if_neg (by rw [hs]; simp), if_neg (by rw [hb]; simp)]
set_option maxHeartbeats 4000000 in
theorem check_any (L sw : Nat) (a : Option Addr) (len cap : Nat) (S : Nat → SlotR) (parts : Int) (w : World) (hm : len ≤ 9223372036854775807) (hL : L < 4294967296) (hsw : sw < 4294967296) (hq0 : -9223372036854775808 ≤ parts) (hq1 : parts ≤ 9223372036854775807) (hS : SlotsAt w a len S) :
    Calls Try.prog 13 #[.agg #[.int .u32 (L : Int), .int .u32 (sw : Int), .slice a len cap], .int .i64 parts] w fun e W' => e = .returned (.int .i64 (chkV S L sw len parts)) ∧ Below w.heap.size w W' := by
  have HI := Lib.hid hS
  clear hS
  by_cases g1 : L < 1
  · obtain rfl : L = 0 := by omega
    have hV := Lib.hid (chk_arg (S := S) (L := 0) (sw := sw) (len := len) (parts := parts) (.inl (by omega)))
    go_enter Try.func13, Try.ntmps13
    go_wp2_with fail
    go_ret
    exact ⟨by rw [hV.out]; rfl, below_box _ _⟩
  · have u1 : decide ((L : Int) < 1) = false := by simp; omega
    have u1' : ((L : Int) == 0) = false := by simp; omega
    by_cases g2 : 16777216 < L
    · have hV := Lib.hid (chk_arg (S := S) (L := L) (sw := sw) (len := len) (parts := parts) (.inr (.inl g2)))
      have u2 : decide ((16777216 : Int) < (L : Int)) = true := by simp; omega
      go_enter Try.func13, Try.ntmps13
      go_wp2_with fail
      go_ret
      exact ⟨by rw [hV.out]; rfl, below_box _ _⟩
    · have u2 : decide ((16777216 : Int) < (L : Int)) = false := by simp; omega
      by_cases g3 : 16 < len
      · have hV := Lib.hid (chk_arg (S := S) (L := L) (sw := sw) (len := len) (parts := parts) (.inr (.inr g3)))
        have u3 : decide ((16 : Int) < (len : Int)) = true := by simp; omega
        go_enter Try.func13, Try.ntmps13
        go_wp2_with fail
        go_ret
        exact ⟨by rw [hV.out]; rfl, below_box _ _⟩
      · have u3 : decide ((16 : Int) < (len : Int)) = false := by simp; omega
        have hN : Hid (¬ (L < 1 ∨ 16777216 < L ∨ 16 < len)) := by show ¬ _; omega
        go_enter Try.func13, Try.ntmps13
        go_wp2_with fail
        clear u1 u1' u2 u3
        have hH := Lib.hid (Held.new w #[.int .u32 (L : Int), .int .u32 (sw : Int), .slice a len cap] 25)
        have hB := Lib.hid (below_box w (.cells #[.int .u32 (L : Int), .int .u32 (sw : Int), .slice a len cap] 25))
        go_loopw [27] (fun i wr => ∃ k : Nat, k ≤ len ∧ i = .int .i64 k ∧ slB S parts k = false ∧ Held wr w.heap.size #[.int .u32 (L : Int), .int .u32 (sw : Int), .slice a len cap] 25 ∧ Below w.heap.size w wr) (fun i _ => len - (intOf i).toNat)
        case atStart => exact ⟨0, Nat.zero_le _, rfl, rfl, hH.out, hB.out⟩
        case round =>
          clear hH hB
          obtain ⟨k, hk, rfl, hb, h1, h2⟩ := hrel
          have hA := Lib.hid hb; have hH := Lib.hid h1; have hB := Lib.hid h2
          have d0 : wr.cell? ⟨w.heap.size, 0, none⟩ = some (.int .u32 (L : Int)) := h1.cell 0 _ rfl
          have d1 : wr.cell? ⟨w.heap.size, 1, none⟩ = some (.int .u32 (sw : Int)) := h1.cell 1 _ rfl
          have d2 : wr.cell? ⟨w.heap.size, 2, none⟩ = some (.slice a len cap) := h1.cell 2 _ rfl
          clear hb h1 h2
          have hne := hB.out.size
          have hlt0 := hH.out.lt
          by_cases hlt : k < len
          · obtain ⟨b, off, rfl, hbl, hcells⟩ := HI.out.1.at (show 0 < len by omega)
            obtain ⟨⟨hp0, hp1⟩, hs1, hs2⟩ := HI.out.2 k
            have c0 : wr.cell? ⟨b, off + k * 3, none⟩ = some (.int .i64 (S k).part) := by rw [hB.out.cell hbl]; exact hcells k hlt 0 (by omega)
            have c1 : wr.cell? ⟨b, off + k * 3 + 1, none⟩ = some (.int .u32 ((S k).start : Int)) := by rw [hB.out.cell hbl]; exact hcells k hlt 1 (by omega)
            have c2 : wr.cell? ⟨b, off + k * 3 + 2, none⟩ = some (.int .u32 ((S k).budget : Int)) := by rw [hB.out.cell hbl]; exact hcells k hlt 2 (by omega)
            have i1 : (k : Int) < (len : Int) := by omega
            clear hcells
            have HS : Hid (slOk (S k) parts = false → chkV S L sw len parts = 2) := fun h => chk_slot hlt h
            have HG : Hid (slOk (S k) parts = true → slB S parts (k + 1) = false) := fun h => by show (slB S parts k || !slOk (S k) parts) = false; rw [hA.out, h]; rfl
            unfold slOk at HS HG
            generalize (S k).part = P at *
            generalize (S k).start = st at *
            generalize (S k).budget = bu at *
            by_cases q1 : P < 0
            · have r1 : decide (P < 0) = true := by simpa using q1
              have hV := Lib.hid (HS.out (by simp; omega))
              clear HS HG
              go_wp2_with fail
              go_ret
              exact ⟨by rw [hV.out]; rfl, hB.out.alloc hne _⟩
            · have r1 : decide (P < 0) = false := by simpa using q1
              by_cases q2 : parts ≤ P
              · have r2 : decide (parts ≤ P) = true := by simpa using q2
                have hV := Lib.hid (HS.out (by simp; omega))
                clear HS HG
                go_wp2_with fail
                go_ret
                exact ⟨by rw [hV.out]; rfl, hB.out.alloc hne _⟩
              · have r2 : decide (parts ≤ P) = false := by simpa using q2
                by_cases q3 : bu < 1
                · obtain rfl : bu = 0 := by omega
                  have hV := Lib.hid (HS.out (by simp))
                  clear HS HG
                  go_wp2_with fail
                  go_ret
                  exact ⟨by rw [hV.out]; rfl, hB.out.alloc hne _⟩
                · have r3 : decide ((bu : Int) < 1) = false := by simp; omega
                  have r3' : ((bu : Int) == 0) = false := by simp; omega
                  by_cases q4 : 1048576 < bu
                  · have r4 : decide ((1048576 : Int) < (bu : Int)) = true := by simp; omega
                    have hV := Lib.hid (HS.out (by simp; omega))
                    clear HS HG
                    go_wp2_with fail
                    go_ret
                    exact ⟨by rw [hV.out]; rfl, hB.out.alloc hne _⟩
                  · have r4 : decide ((1048576 : Int) < (bu : Int)) = false := by simp; omega
                    have hG := Lib.hid (HG.out (by simp; omega))
                    clear HS HG
                    go_wp2_with fail
                    go_roundw
                    case rel => exact ⟨k + 1, by omega, by go_num, hG.out, hH.out.alloc _, hB.out.alloc hne _⟩
                    case measure => simp [intOf]; omega
          · obtain rfl : k = len := by omega
            have hSB := hA
            clear hA
            go_wp2_with fail
            go_loopw [54] (fun i wr => ∃ j : Nat, j ≤ k ∧ i = .int .i64 j ∧ frB S L sw k j = false ∧ Held wr w.heap.size #[.int .u32 (L : Int), .int .u32 (sw : Int), .slice a k cap] 25 ∧ Below w.heap.size w wr) (fun i _ => k - (intOf i).toNat)
            case atStart => exact ⟨0, Nat.zero_le _, rfl, rfl, hH.out, hB.out⟩
            case round =>
              clear hH hB d0 d1 d2 hne hlt0
              obtain ⟨j, hj, rfl, hb, h1, h2⟩ := hrel
              have hA := Lib.hid hb; have hH := Lib.hid h1; have hB := Lib.hid h2
              have d0 : wr.cell? ⟨w.heap.size, 0, none⟩ = some (.int .u32 (L : Int)) := h1.cell 0 _ rfl
              have d1 : wr.cell? ⟨w.heap.size, 1, none⟩ = some (.int .u32 (sw : Int)) := h1.cell 1 _ rfl
              have d2 : wr.cell? ⟨w.heap.size, 2, none⟩ = some (.slice a k cap) := h1.cell 2 _ rfl
              clear hb h1 h2
              have hne := hB.out.size
              have hlt0 := hH.out.lt
              by_cases hlt : j < k
              · obtain ⟨b, off, rfl, hbl, hcells⟩ := HI.out.1.at (show 0 < k by omega)
                obtain ⟨⟨hp0, hp1⟩, hs1, hs2⟩ := HI.out.2 j
                have c0 : wr.cell? ⟨b, off + j * 3, none⟩ = some (.int .i64 (S j).part) := by rw [hB.out.cell hbl]; exact hcells j hlt 0 (by omega)
                have c1 : wr.cell? ⟨b, off + j * 3 + 1, none⟩ = some (.int .u32 ((S j).start : Int)) := by rw [hB.out.cell hbl]; exact hcells j hlt 1 (by omega)
                have c2 : wr.cell? ⟨b, off + j * 3 + 2, none⟩ = some (.int .u32 ((S j).budget : Int)) := by rw [hB.out.cell hbl]; exact hcells j hlt 2 (by omega)
                have i1 : (j : Int) < (k : Int) := by omega
                have HS : Hid (nextF S L k j < endF S sw j → chkV S L sw k parts = 170) := fun h => chk_frame hN.out hSB.out hlt h
                have HG : Hid (¬ nextF S L k j < endF S sw j → frB S L sw k (j + 1) = false) := fun h => by show (frB S L sw k j || decide (nextF S L k j < endF S sw j)) = false; rw [hA.out, decide_eq_false h]; rfl
                by_cases hnx : j + 1 < k
                · obtain ⟨_, ns1, _⟩ := HI.out.2 (j + 1)
                  have hnv : nextF S L k j = (S (j + 1)).start := by unfold nextF; rw [if_pos hnx]
                  have n1 : wr.cell? ⟨b, off + (j + 1) * 3 + 1, none⟩ = some (.int .u32 ((S (j + 1)).start : Int)) := by rw [hB.out.cell hbl]; exact hcells (j + 1) hnx 1 (by omega)
                  have i2 : (j : Int) + 1 < (k : Int) := by omega
                  have i4 : ((j : Int) + 1).toNat = j + 1 := by omega
                  have i5 : 0 ≤ (j : Int) + 1 := by omega
                  have hblw : b < wr.heap.size := by omega
                  have i3 : decide ((j : Int) + 1 < (k : Int)) = true := by simp; omega
                  rw [hnv] at HS HG
                  unfold endF at HS HG
                  clear hcells hnv
                  generalize (S (j + 1)).start = nx at *
                  generalize (S j).part = P at *
                  generalize (S j).start = st at *
                  generalize (S j).budget = bu at *
                  by_cases qe : nx < st + sw + bu
                  · have re : decide ((nx : Int) < (st : Int) + (sw : Int) + (bu : Int)) = true := by simp; omega
                    have hV := Lib.hid (HS.out qe)
                    clear HS HG qe
                    go_wp2_with fail
                    go_ret
                    exact ⟨by rw [hV.out]; rfl, hB.out.alloc hne _⟩
                  · have re : decide ((nx : Int) < (st : Int) + (sw : Int) + (bu : Int)) = false := by simp; omega
                    have hG := Lib.hid (HG.out qe)
                    clear HS HG qe
                    go_wp2_with fail
                    go_roundw
                    case rel => exact ⟨j + 1, by omega, by go_num, hG.out, hH.out.alloc _, hB.out.alloc hne _⟩
                    case measure => simp [intOf]; omega
                · have hnv : nextF S L k j = L := by unfold nextF; rw [if_neg hnx]
                  have i3 : decide ((j : Int) + 1 < (k : Int)) = false := by simp; omega
                  rw [hnv] at HS HG
                  unfold endF at HS HG
                  clear hcells hnv
                  generalize (S j).part = P at *
                  generalize (S j).start = st at *
                  generalize (S j).budget = bu at *
                  by_cases qe : L < st + sw + bu
                  · have re : decide ((L : Int) < (st : Int) + (sw : Int) + (bu : Int)) = true := by simp; omega
                    have hV := Lib.hid (HS.out qe)
                    clear HS HG qe
                    go_wp2_with fail
                    go_ret
                    exact ⟨by rw [hV.out]; rfl, hB.out.alloc hne _⟩
                  · have re : decide ((L : Int) < (st : Int) + (sw : Int) + (bu : Int)) = false := by simp; omega
                    have hG := Lib.hid (HG.out qe)
                    clear HS HG qe
                    go_wp2_with fail
                    go_roundw
                    case rel => exact ⟨j + 1, by omega, by go_num, hG.out, hH.out.alloc _, hB.out.alloc hne _⟩
                    case measure => simp [intOf]; omega
              · obtain rfl : j = k := by omega
                have hV := Lib.hid (chk_ok hN.out hSB.out hA.out)
                go_wp2_with fail
                go_ret
                exact ⟨by rw [hV.out]; rfl, hB.out⟩
end Go.Proofs.Ythbieplfphignaa
