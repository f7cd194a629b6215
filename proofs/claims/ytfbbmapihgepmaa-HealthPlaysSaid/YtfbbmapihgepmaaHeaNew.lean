/- What Check, New, Reset and Copy come to. -/
import Derived.Test.YtfbbmapihgepmaaHeaEvent
import Derived.Laws.EntriesVeiled
namespace Go.Proofs.Ytfbbmapihgepmaa
open Go.RowKit
set_option linter.unusedVariables false
def defV (d : HDef) (j : Nat) : Value := if j = 0 then .int .u8 (d.trap : Int) else if j = 1 then .int .u8 (d.over : Int) else .int .u8 (d.lim : Int)
/-- A table lies at an address. -/
def DefsAt (w : World) (a : Option Addr) (len : Nat) (D : Nat → HDef) : Prop :=
  SliceN w a len 3 (fun i j => defV (D i) j) ∧ ∀ i, i < len → (D i).trap < 256 ∧ (D i).over < 256 ∧ (D i).lim < 256
theorem DefsAt.below {w w' : World} {a : Option Addr} {len : Nat} {D : Nat → HDef} (h : DefsAt w a len D) (hb : Below w.heap.size w w') : DefsAt w' a len D := ⟨h.1.below hb, h.2⟩
theorem DefsAt.grown {w w' : World} {a : Option Addr} {len : Nat} {D : Nat → HDef} {g : Nat} (h : DefsAt w a len D) (hg : w.grownBy w' (some g)) (hn : ∀ b off, a = some ⟨b, off, none⟩ → b ≠ g) : DefsAt w' a len D := by
  refine ⟨?_, h.2⟩
  rcases h.1 with h0 | ⟨b, off, rfl, hlt, hc⟩
  · exact .inl h0
  · exact .inr ⟨b, off, rfl, Nat.lt_of_lt_of_le hlt hg.size, fun i hi j hj => by
      rw [World.cell?_of_block (w := w) (hg.block b hlt (fun e => hn b off rfl (by simpa using e)))]; exact hc i hi j hj⟩
def okAct (a : Nat) : Bool := decide (1 ≤ a) && decide (a ≤ 3)
def okDef (d : HDef) : Bool := okAct d.trap && okAct d.over
def anyBad (D : Nat → HDef) : Nat → Bool
  | 0 => false
  | n + 1 => anyBad D n || !okDef (D n)
theorem anyBad_of {D : Nat → HDef} {k n : Nat} (hk : k < n) (hb : okDef (D k) = false) : anyBad D n = true := by
  induction n with
  | zero => omega
  | succ n ih =>
    show (anyBad D n || !okDef (D n)) = true
    by_cases e : k = n
    · subst e; simp [hb]
    · rw [ih (by omega)]; rfl
theorem act_any (a : Nat) (w : World) (h : a < 256) : Calls Try.prog 21 #[.int .u8 (a : Int)] w fun e w' => e = .returned (.bool (okAct a)) ∧ w = w' := by
  by_cases h1 : 1 ≤ a
  · by_cases h3 : a ≤ 3
    · have hr : Hid (okAct a = true) := by show okAct a = true; simp [okAct, h1, h3]
      have t1 : decide ((1 : Int) ≤ (a : Int)) = true := by simp; omega
      have t2 : decide ((a : Int) ≤ 3) = true := by simp; omega
      go_enter Try.func21, Try.ntmps21
      go_wp2
      go_ret
      exact ⟨by rw [hr.out]; rfl, rfl⟩
    · have hr : Hid (okAct a = false) := by show okAct a = false; simp [okAct, h3]
      have t1 : decide ((1 : Int) ≤ (a : Int)) = true := by simp; omega
      have t2 : decide ((a : Int) ≤ 3) = false := by simp; omega
      go_enter Try.func21, Try.ntmps21
      go_wp2
      go_ret
      exact ⟨by rw [hr.out]; rfl, rfl⟩
  · obtain rfl : a = 0 := by omega
    go_enter Try.func21, Try.ntmps21
    go_wp2
    go_ret
    exact ⟨rfl, rfl⟩
def lam (c : Nat) : Value := .func (.func 23) #[] #[.pointer (some ⟨c, 0, none⟩)]
set_option maxHeartbeats 1000000 in
theorem bad_any (d : HDef) (c : Nat) (w : World) (h1 : d.trap < 256) (h2 : d.over < 256) (hc : w.cell? ⟨c, 0, none⟩ = some (.func (.func 21) #[] #[])) :
    Calls Try.prog 23 #[.agg #[.int .u8 (d.trap : Int), .int .u8 (d.over : Int), .int .u8 (d.lim : Int)], .pointer (some ⟨c, 0, none⟩)] w fun e w' => e = .returned (.bool (!okDef d)) ∧ Below w.heap.size w w' := by
  have hlt := block_lt_of_cell hc
  have hc2 : (w.alloc (.cells #[.int .u8 (d.trap : Int), .int .u8 (d.over : Int), .int .u8 (d.lim : Int)] 48)).cell? ⟨c, 0, none⟩ = some (.func (.func 21) #[] #[]) := by rw [World.cell?_alloc_lt _ _ _ hlt]; exact hc
  have A1 := act_any d.trap
  have A2 := act_any d.over
  have HR : Hid (okDef d = (okAct d.trap && okAct d.over)) := rfl
  generalize okDef d = r at *
  generalize okAct d.trap = b1 at *
  generalize okAct d.over = b2 at *
  have A1 := Lib.hid A1; have A2 := Lib.hid A2
  clear hc
  cases b1 <;> cases b2
  all_goals
    have hr := HR.out
    simp at hr
    subst hr
    go_enter Try.func23, Try.ntmps23
    go_wp2_with fail
    refine (A1.out _ h1).mono ?_
    rintro e w1 ⟨rfl, rfl⟩
    go_wp2_with fail
    first
      | (go_ret; exact ⟨rfl, (Below.refl _ _).alloc (Nat.le_refl _) _⟩)
      | (refine (A2.out _ h2).mono ?_; rintro e w1 ⟨rfl, rfl⟩; go_wp2_with fail; go_ret; exact ⟨rfl, (Below.refl _ _).alloc (Nat.le_refl _) _⟩)
def IdxPost (w : World) (b : Bool) (e : Ending) (w' : World) : Prop := ∃ r : Int, e = .returned (.int .i64 r) ∧ (b = true → 0 ≤ r) ∧ (b = false → r = -1) ∧ -1 ≤ r ∧ r ≤ 9223372036854775807 ∧ Below w.heap.size w w'
set_option maxHeartbeats 1000000 in
theorem idx_any (a : Option Addr) (len cap c : Nat) (D : Nat → HDef) (w : World) (hm : len ≤ 9223372036854775807) (h : DefsAt w a len D) (hc : w.cell? ⟨c, 0, none⟩ = some (.func (.func 21) #[] #[])) :
    Calls Try.prog 26 #[.slice a len cap, lam c] w (IdxPost w (anyBad D len)) := by
  have H := Lib.hid h; have HC := Lib.hid hc
  have hcl := block_lt_of_cell hc
  clear h hc
  unfold lam
  go_enter Try.func26, Try.ntmps26
  go_wp2_with fail
  go_loopw [8] (fun i wr => ∃ k : Nat, k ≤ len ∧ i = .int .i64 k ∧ anyBad D k = false ∧ Below w.heap.size w wr) (fun i _ => len - (intOf i).toNat)
  case atStart => exact ⟨0, Nat.zero_le _, rfl, rfl, Below.refl _ _⟩
  case round =>
    obtain ⟨k, hk, rfl, hb, hB⟩ := hrel
    have HA := Lib.hid hb; have HB := Lib.hid hB
    clear hb hB
    by_cases hlt : k < len
    · obtain ⟨b, off, rfl, hbl, hcells⟩ := H.out.1.at (by omega)
      have d1 := (H.out.2 k hlt).1; have d2 := (H.out.2 k hlt).2.1
      have c0 : wr.cell? ⟨b, off + k * 3, none⟩ = some (.int .u8 ((D k).trap : Int)) := by rw [HB.out.cell hbl]; exact hcells k hlt 0 (by omega)
      have c1 : wr.cell? ⟨b, off + k * 3 + 1, none⟩ = some (.int .u8 ((D k).over : Int)) := by rw [HB.out.cell hbl]; exact hcells k hlt 1 (by omega)
      have c2 : wr.cell? ⟨b, off + k * 3 + 2, none⟩ = some (.int .u8 ((D k).lim : Int)) := by rw [HB.out.cell hbl]; exact hcells k hlt 2 (by omega)
      clear hcells
      have HCw : Hid (wr.cell? ⟨c, 0, none⟩ = some (.func (.func 21) #[] #[])) := (HB.out.cell hcl).trans HC.out
      have HN := Lib.hid (bad_any (D k) c wr d1 d2 HCw.out)
      have HO : Hid (okDef (D k) = okDef (D k)) := rfl
      cases hok : okDef (D k) with
      | true =>
        have HN2 := HN.out
        rw [hok] at HN2
        have HN2 := Lib.hid HN2
        have HA2 : Hid (anyBad D (k + 1) = false) := by show (anyBad D k || !okDef (D k)) = false; rw [HA.out, hok]; rfl
        clear hok HO HN
        go_wp2_with fail
        refine HN2.out.mono ?_
        rintro e w1 ⟨rfl, hb1⟩
        have HB1 : Hid (Below w.heap.size w w1) := HB.out.trans (hb1.mono HB.out.size)
        clear hb1
        go_wp2_with fail
        go_roundw
        case rel => exact ⟨k + 1, by omega, by go_num, HA2.out, HB1.out⟩
        case measure => simp [intOf]; omega
      | false =>
        have HN2 := HN.out
        rw [hok] at HN2
        have HN2 := Lib.hid HN2
        have HA2 : Hid (anyBad D len = true) := anyBad_of hlt hok
        clear hok HO HN
        go_wp2_with fail
        refine HN2.out.mono ?_
        rintro e w1 ⟨rfl, hb1⟩
        have HB1 : Hid (Below w.heap.size w w1) := HB.out.trans (hb1.mono HB.out.size)
        clear hb1
        go_wp2_with fail
        go_ret
        exact ⟨(k : Int), rfl, fun _ => by omega, (fun h => by rw [HA2.out] at h; cases h), by omega, by omega, HB1.out⟩
    · obtain rfl : k = len := by omega
      go_wp2_with fail
      go_ret
      exact ⟨-1, rfl, (fun h => by rw [HA.out] at h; cases h), fun _ => rfl, by omega, by omega, HB.out⟩
theorem contains_any (a : Option Addr) (len cap c : Nat) (D : Nat → HDef) (w : World) (hm : len ≤ 9223372036854775807) (h : DefsAt w a len D) (hc : w.cell? ⟨c, 0, none⟩ = some (.func (.func 21) #[] #[])) :
    Calls Try.prog 22 #[.slice a len cap, lam c] w fun e w' => e = .returned (.bool (anyBad D len)) ∧ Below w.heap.size w w' := by
  have HI := Lib.hid (idx_any a len cap c D w hm h hc)
  clear hc
  generalize anyBad D len = b at *
  cases b
  all_goals
    unfold lam
    go_enter Try.func22, Try.ntmps22
    go_wp2_with fail
    refine HI.out.mono ?_
    rintro e w1 ⟨r, rfl, h1, h2, h3, h4, hb⟩
    have HB := Lib.hid hb
    clear hb
  · have hr := h2 rfl
    subst hr
    clear h1 h2
    go_wp2_with fail
    go_ret
    exact ⟨rfl, HB.out⟩
  · have hr := h1 rfl
    have t : decide (0 ≤ r) = true := by simpa using hr
    clear h1 h2
    go_wp2_with fail
    go_ret
    exact ⟨rfl, HB.out⟩
def checkV (D : Nat → HDef) (len : Nat) : Int := if 8 < len ∨ anyBad D len = true then 2 else 0
set_option maxHeartbeats 1000000 in
theorem check_any (a : Option Addr) (len cap : Nat) (D : Nat → HDef) (w : World) (hm : len ≤ 9223372036854775807) (h : DefsAt w a len D) :
    Calls Try.prog 9 #[.slice a len cap] w fun e w' => e = .returned (.int .i64 (checkV D len)) ∧ Below w.heap.size w w' := by
  have H := Lib.hid h
  clear h
  by_cases h8 : 8 < len
  · have HV : Hid (checkV D len = 2) := by show checkV D len = 2; unfold checkV; rw [if_pos (.inl h8)]
    have t1 : decide (8 < (len : Int)) = true := by simp; omega
    go_enter Try.func9, Try.ntmps9
    go_wp2_with fail
    go_ret
    exact ⟨by rw [HV.out]; rfl, (Below.refl _ _).alloc (Nat.le_refl _) _⟩
  · have t1 : decide (8 < (len : Int)) = false := by simp; omega
    have HV : Hid (checkV D len = if anyBad D len = true then 2 else 0) := by
      show checkV D len = _; unfold checkV; simp [h8]
    have mf : ∀ w, (Instr.makeFunc (.func 23) #[] #[.pointer (some ⟨w.heap.size, 0, none⟩)]).run Try.prog w = .ok (.func (.func 23) #[] #[.pointer (some ⟨w.heap.size, 0, none⟩)]) w := fun _ => rfl
    have HC := fun w' c h hc => contains_any a len cap c D w' hm h hc
    unfold lam at HC
    generalize anyBad D len = b at *
    have HC := Lib.hid HC
    cases b
    all_goals
      go_enter Try.func9, Try.ntmps9
      go_wp2_with fail
      refine (HC.out _ _ (H.out.below ((Below.refl _ _).alloc (Nat.le_refl _) _)) (cell_row (heap_alloc_new _ _) rfl)).mono ?_
      rintro e w1 ⟨rfl, hb⟩
      have HB : Hid (Below w.heap.size w w1) := ((Below.refl _ _).alloc (Nat.le_refl _) _).trans (hb.mono (by simp))
      clear hb
      go_wp2_with fail
      go_ret
      exact ⟨by rw [HV.out]; rfl, HB.out⟩
end Go.Proofs.Ytfbbmapihgepmaa
