/- Regions; Find, the program's and the document's (any seat that has them). -/
import Derived.Test.YteekneicahfkpaaRow
import Derived.Test.YteekneicahfkpaaCls
import Derived.Outline
import Derived.IntWalk
import Derived.WalkSpells
import Derived.OwnWalk
import Derived.Laws.BitsAllLaws
namespace Go.Proofs.Yteekneicahfkpaa
open Go.RowKit
set_option linter.unusedVariables false
structure Reg where
  (base size rt : Nat)
instance : Inhabited Reg := ⟨⟨0, 0, 0⟩⟩
structure Reg.ok (r : Reg) : Prop where
  base : r.base < 4294967296
  size : r.size < 4294967296
  rt : r.rt < 256
def regV (r : Reg) (j : Nat) : Value := if j = 0 then .int .u32 (r.base : Int) else if j = 1 then .int .u32 (r.size : Int) else .int .u8 (r.rt : Int)
def Reg.val (r : Reg) : Value := .agg #[.int .u32 (r.base : Int), .int .u32 (r.size : Int), .int .u8 (r.rt : Int)]
def RegsAt (w : World) (a : Option Addr) (n : Nat) (L : Nat → Reg) : Prop := SliceN w a n 3 (fun i j => regV (L i) j) ∧ ∀ i, (L i).ok
theorem RegsAt.below {w w' : World} {a : Option Addr} {n : Nat} {L : Nat → Reg} (h : RegsAt w a n L) (hb : Below w.heap.size w w') : RegsAt w' a n L := ⟨h.1.below hb, h.2⟩
def Reg.hit (r : Reg) (at_ size right : Nat) : Bool := decide (r.rt &&& right = right) && decide (r.base ≤ at_) && decide (at_ + size ≤ r.base + r.size)
def first (p : Nat → Bool) (n : Nat) : Option Nat := (List.range n).find? p
theorem first_some {p : Nat → Bool} {n k : Nat} (hk : k < n) (hp : p k = true) (h : ∀ j, j < k → p j = false) : first p n = some k := by
  unfold first
  rw [List.find?_eq_some_iff_append]
  refine ⟨hp, (List.range n).take k, (List.range n).drop (k + 1), ?_, fun a ha => ?_⟩
  · apply List.ext_getElem?
    intro i
    by_cases h1 : i < k
    · rw [List.getElem?_append_left (by simp; omega), List.getElem?_take, if_pos h1]
    · rw [List.getElem?_append_right (by simp; omega)]
      have hl : ((List.range n).take k).length = k := by simp; omega
      rw [hl]
      by_cases h2 : i = k
      · subst h2; simp [hk]
      · obtain ⟨d, hd⟩ : ∃ d, i - k = d + 1 := ⟨i - k - 1, by omega⟩
        rw [hd, List.getElem?_cons_succ, List.getElem?_drop, show k + 1 + d = i by omega]
  · obtain ⟨i, hi⟩ := List.mem_iff_getElem?.1 ha
    rw [List.getElem?_take] at hi
    by_cases e : i < k
    · rw [if_pos e] at hi
      have : i = a := by
        have hin : i < n := by omega
        simpa [hin] using hi
      subst this
      simp [h i e]
    · rw [if_neg e] at hi; cases hi
theorem first_none {p : Nat → Bool} {n : Nat} (h : ∀ j, j < n → p j = false) : first p n = none := by
  unfold first
  rw [List.find?_eq_none]
  intro x hx
  have : x < n := by simpa using hx
  simp [h x this]
def found (L : Nat → Reg) (n at_ size right : Nat) : Option Nat := if size = 0 then none else first (fun i => (L i).hit at_ size right) n
def findV (o : Option Nat) : Value := .tuple #[.int .i64 ((o.getD 0 : Nat) : Int), .bool o.isSome]
theorem end_any (r : Reg) (w : World) (h : r.ok) : Calls Try.prog 21 #[r.val] w fun e w' => e = .returned (.int .u64 ((r.base + r.size : Nat) : Int)) ∧ Below w.heap.size w w' := by
  have h1 := h.base; have h2 := h.size
  obtain ⟨b, s, t⟩ := r
  simp only at h1 h2
  unfold Reg.val
  have hB : Hid (Below w.heap.size w (w.alloc (.cells #[.int .u32 (b : Int), .int .u32 (s : Int), .int .u8 (t : Int)] 24))) := (Below.refl _ w).alloc (Nat.le_refl _) _
  go_enter Try.func21, Try.ntmps21
  go_wp2_with fail
  go_ret
  exact ⟨by simp, hB.out⟩
set_option maxHeartbeats 4000000 in
theorem find_any (a : Option Addr) (n c : Nat) (L : Nat → Reg) (at_ size right : Nat) (w : World) (hL : RegsAt w a n L) (hn : n ≤ 9223372036854775807) (h1 : at_ < 4294967296) (h2 : size < 4294967296) (h3 : right < 256) :
    Calls Try.prog 19 #[.slice a n c, .int .u32 (at_ : Int), .int .u32 (size : Int), .int .u8 (right : Int)] w fun e w' => e = .returned (findV (found L n at_ size right)) ∧ Below w.heap.size w w' := by
  by_cases hz : size = 0
  · subst hz
    have HF : Hid (findV (found L n at_ 0 right) = .tuple #[.int .i64 0, .bool false]) := by show _ = _; unfold found; rw [if_pos rfl]; rfl
    rw [HF.out]
    clear hL
    go_enter Try.func19, Try.ntmps19
    go_wp2_with fail
    go_ret2
    exact ⟨rfl, Below.refl _ _⟩
  have t0 : ((size : Int) == 0) = false := by simpa using hz
  have HFD : Hid (found L n at_ size right = first (fun i => (L i).hit at_ size right) n) := by show _ = _; unfold found; rw [if_neg hz]
  obtain ⟨F, hF⟩ : ∃ F, F = findV (found L n at_ size right) := ⟨_, rfl⟩
  rw [← hF]
  rw [HFD.out] at hF
  have HF := Lib.hid hF
  clear HFD hz hF
  have HL := Lib.hid hL
  clear hL
  go_enter Try.func19, Try.ntmps19
  go_wp2_with fail
  go_loopw [16] (fun i wr => ∃ k : Nat, k ≤ n ∧ i = .int .i64 k ∧ (∀ j, j < k → (L j).hit at_ size right = false) ∧ Below w.heap.size w wr) (fun i _ => n - (intOf i).toNat)
  case atStart => exact ⟨0, Nat.zero_le _, rfl, fun j hj => absurd hj (by omega), Below.refl _ _⟩
  case round =>
    obtain ⟨k, hk, rfl, hno, hb⟩ := hrel
    have B1 := Lib.hid hb; have NO := Lib.hid hno
    clear hb hno
    by_cases hlt : k < n
    · obtain ⟨sb, soff, rfl, hsl, hcells⟩ := HL.out.1.at (by omega)
      have x0 : wr.cell? ⟨sb, soff + k * 3, none⟩ = some (.int .u32 ((L k).base : Int)) := by rw [B1.out.cell hsl]; exact hcells k hlt 0 (by omega)
      have x1 : wr.cell? ⟨sb, soff + k * 3 + 1, none⟩ = some (.int .u32 ((L k).size : Int)) := by rw [B1.out.cell hsl]; exact hcells k hlt 1 (by omega)
      have x2 : wr.cell? ⟨sb, soff + k * 3 + 2, none⟩ = some (.int .u8 ((L k).rt : Int)) := by rw [B1.out.cell hsl]; exact hcells k hlt 2 (by omega)
      clear hcells
      have hr0 := (HL.out.2 k).base; have hr1 := (HL.out.2 k).size; have hr2 := (HL.out.2 k).rt
      have HR : Hid ((L k).hit at_ size right = (decide ((L k).rt &&& right = right) && decide ((L k).base ≤ at_) && decide (at_ + size ≤ (L k).base + (L k).size))) := rfl
      have HE := Lib.hid (end_any (L k))
      have HK := Lib.hid (HL.out.2 k)
      generalize hLk : L k = r at *
      have HLK := Lib.hid hLk
      clear hLk
      obtain ⟨b, s, t⟩ := r
      unfold Reg.val at HE
      simp only at x0 x1 x2 hr0 hr1 hr2 HR HE
      have hb := u8_and_nat t right hr2 h3
      have hland : t &&& right < 256 := Nat.lt_of_le_of_lt Nat.and_le_left hr2
      have BA : Hid (Below w.heap.size w (wr.alloc (.cells #[.int .u32 (b : Int), .int .u32 (s : Int), .int .u8 (t : Int)] 24))) := B1.out.alloc B1.out.size _
      obtain ⟨z, hz⟩ : ∃ z, z = t &&& right := ⟨_, rfl⟩
      rw [← hz] at hb hland
      have HZ := Lib.hid hz
      clear hz
      cases t1 : ((z : Int) == (right : Int))
      case false =>
        have HH : Hid ((⟨b, s, t⟩ : Reg).hit at_ size right = false) := by
          have h : ¬ (z = right) := by intro e; simp [e] at t1
          show _ = _
          rw [HR.out, ← HZ.out, decide_eq_false h]; rfl
        go_wp2_with fail
        go_roundw
        case rel => exact ⟨k + 1, by omega, by go_num, fun j hj => (by
          by_cases e : j < k
          · exact NO.out j e
          · obtain rfl : j = k := by omega
            rw [HLK.out]; exact HH.out), BA.out⟩
        case measure => simp [intOf]; omega
      case true =>
        have hzr : z = right := by have h : (z : Int) = (right : Int) := by simpa using t1
                                   omega
        cases t2 : decide (b ≤ at_)
        case false =>
          have t2' : decide ((b : Int) ≤ (at_ : Int)) = false := by have := of_decide_eq_false t2; simp; omega
          have HH : Hid ((⟨b, s, t⟩ : Reg).hit at_ size right = false) := by
            have h : ¬ (b ≤ at_) := by have := of_decide_eq_false t2; omega
            show _ = _
            rw [HR.out, decide_eq_false h, Bool.and_false, Bool.false_and]
          clear hzr
          go_wp2_with fail
          go_roundw
          case rel => exact ⟨k + 1, by omega, by go_num, fun j hj => (by
            by_cases e : j < k
            · exact NO.out j e
            · obtain rfl : j = k := by omega
              rw [HLK.out]; exact HH.out), BA.out⟩
          case measure => simp [intOf]; omega
        case true =>
          have t2' : decide ((b : Int) ≤ (at_ : Int)) = true := by have := of_decide_eq_true t2; simp; omega
          have hba : b ≤ at_ := of_decide_eq_true t2
          have HE2 := Lib.hid (HE.out (wr.alloc (.cells #[.int .u32 (b : Int), .int .u32 (s : Int), .int .u8 (t : Int)] 24)) HK.out)
          cases t3 : decide (at_ + size ≤ b + s)
          case false =>
            have t3' : decide ((at_ : Int) + (size : Int) ≤ (b : Int) + (s : Int)) = false := by have := of_decide_eq_false t3; simp; omega
            have t3'' : decide ((at_ : Int) + (size : Int) ≤ ((b + s : Nat) : Int)) = false := by have := of_decide_eq_false t3; simp; omega
            have HH : Hid ((⟨b, s, t⟩ : Reg).hit at_ size right = false) := by
              have h : ¬ (at_ + size ≤ b + s) := by have := of_decide_eq_false t3; omega
              show _ = _
              rw [HR.out, decide_eq_false h, Bool.and_false]
            clear hzr hba
            go_wp2_with fail
            refine HE2.out.mono ?_
            rintro e w5 ⟨rfl, hb5⟩
            have B5 : Hid (Below w.heap.size w w5) := BA.out.trans (hb5.mono BA.out.size)
            clear hb5
            go_wp2_with fail
            go_roundw
            case rel => exact ⟨k + 1, by omega, by go_num, fun j hj => (by
              by_cases e : j < k
              · exact NO.out j e
              · obtain rfl : j = k := by omega
                rw [HLK.out]; exact HH.out), B5.out⟩
            case measure => simp [intOf]; omega
          case true =>
            have t3' : decide ((at_ : Int) + (size : Int) ≤ (b : Int) + (s : Int)) = true := by have := of_decide_eq_true t3; simp; omega
            have t3'' : decide ((at_ : Int) + (size : Int) ≤ ((b + s : Nat) : Int)) = true := by have := of_decide_eq_true t3; simp; omega
            have HH : Hid (F = .tuple #[.int .i64 (k : Int), .bool true]) := by
              have h : at_ + size ≤ b + s := by have := of_decide_eq_true t3; omega
              show _ = _
              rw [HF.out, first_some hlt (by rw [HLK.out, HR.out, ← HZ.out, decide_eq_true hzr, decide_eq_true hba, decide_eq_true h]; rfl) NO.out]; rfl
            clear hzr hba
            go_wp2_with fail
            refine HE2.out.mono ?_
            rintro e w5 ⟨rfl, hb5⟩
            have B5 : Hid (Below w.heap.size w w5) := BA.out.trans (hb5.mono BA.out.size)
            clear hb5
            go_wp2_with fail
            go_ret2
            exact ⟨congrArg Ending.returned HH.out.symm, B5.out⟩
    · obtain rfl : k = n := by omega
      have HH : Hid (F = .tuple #[.int .i64 0, .bool false]) := by show _ = _; rw [HF.out, first_none NO.out]; rfl
      go_wp2_with fail
      go_ret2
      exact ⟨congrArg Ending.returned HH.out.symm, B1.out⟩
end Go.Proofs.Yteekneicahfkpaa
