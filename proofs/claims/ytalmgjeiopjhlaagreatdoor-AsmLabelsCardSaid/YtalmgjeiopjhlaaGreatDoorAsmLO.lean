/- split, words; the document's op, value. -/
import Derived.Test.YtalmgjeiopjhlaaGreatDoorAsmJK
namespace Go.Proofs.YtalmgjeiopjhlaaGreatDoor
open Go.Shelf Go.RowKit
set_option linter.unusedVariables false
set_option linter.unusedSimpArgs false
def opL (l : List UInt8) : Nat := (first (fun k => decide (0 < k) && decide ((rowAt k).name = l)) 28).getD 0
theorem opL_of (s : ByteArray) : opOf s = opL s.data.toList := by
  unfold opL opOf
  rw [show opHit s = fun k => decide (0 < k) && decide ((rowAt k).name = s.data.toList) from funext fun k => opHit_eq s k]
def sLoad : List UInt8 := [108, 111, 97, 100]
def sStore : List UInt8 := [115, 116, 111, 114, 101]
def opR (l : List UInt8) : Nat × Nat :=
  if l = sLoad ++ [49] then (17, 1) else if l = sLoad ++ [50] then (17, 2) else if l = sLoad ++ [52] then (17, 4) else
  if l = sStore ++ [49] then (18, 1) else if l = sStore ++ [50] then (18, 2) else if l = sStore ++ [52] then (18, 4) else
  if l = sLoad ∨ l = sStore then (0, 0) else (opL l, 0)
theorem opL_inv {l : List UInt8} {k : Nat} (h : opL l = k) (hk : k ≠ 0) : l = (rowAt k).name ∧ k < 28 := by
  unfold opL at h
  cases hf : first (fun k => decide (0 < k) && decide ((rowAt k).name = l)) 28 with
  | none => rw [hf] at h; exact absurd h.symm hk
  | some m =>
    rw [hf] at h
    obtain rfl : m = k := h
    unfold first at hf
    have h1 := List.mem_range.1 (List.mem_of_find?_eq_some hf)
    have h2 := List.find?_some hf
    simp at h2
    exact ⟨h2.2.symm, h1⟩
set_option maxRecDepth 100000
theorem opL_load : opL sLoad = 17 := by decide
theorem opL_store : opL sStore = 18 := by decide
theorem opR_other {l : List UInt8} (h0 : opL l ≠ 0) (h17 : opL l ≠ 17) (h18 : opL l ≠ 18) : opR l = (opL l, 0) := by
  unfold opR
  have n : ∀ p : List UInt8, opL p = 0 → l ≠ p := fun p hp e => h0 (by rw [e]; exact hp)
  rw [if_neg (n _ (by decide)), if_neg (n _ (by decide)), if_neg (n _ (by decide)), if_neg (n _ (by decide)), if_neg (n _ (by decide)), if_neg (n _ (by decide)), if_neg]
  rintro (e | e)
  · exact h17 (by rw [e]; exact opL_load)
  · exact h18 (by rw [e]; exact opL_store)
theorem opR_bare {l : List UInt8} (h : opL l = 17 ∨ opL l = 18) : opR l = (0, 0) := by
  rcases h with h | h
  · rw [(opL_inv h (by decide)).1]; decide
  · rw [(opL_inv h (by decide)).1]; decide
theorem opR_zero {l : List UInt8} (h : opL l = 0) (hn : ∀ p b, l = p ++ [b] → ¬ ((opL p = 17 ∨ opL p = 18) ∧ (b = 49 ∨ b = 50 ∨ b = 52))) : opR l = (0, 0) := by
  unfold opR
  have a1 : ∀ b : UInt8, (b = 49 ∨ b = 50 ∨ b = 52) → l ≠ sLoad ++ [b] := fun b hb e => hn _ _ e ⟨.inl opL_load, hb⟩
  have a2 : ∀ b : UInt8, (b = 49 ∨ b = 50 ∨ b = 52) → l ≠ sStore ++ [b] := fun b hb e => hn _ _ e ⟨.inr opL_store, hb⟩
  rw [if_neg (a1 49 (by decide)), if_neg (a1 50 (by decide)), if_neg (a1 52 (by decide)), if_neg (a2 49 (by decide)), if_neg (a2 50 (by decide)), if_neg (a2 52 (by decide)), h]
  split <;> rfl
theorem opR_sized {p : List UInt8} {b : UInt8} (hp : opL p = 17 ∨ opL p = 18) (hb : b = 49 ∨ b = 50 ∨ b = 52) : opR (p ++ [b]) = (opL p, b.toNat - 48) := by
  rcases hp with h | h <;> (rw [(opL_inv h (by decide)).1]; rcases hb with rfl | rfl | rfl <;> decide)
theorem opR_lt (l : List UInt8) : (opR l).1 < 28 ∧ (opR l).2 ≤ 4 := by
  unfold opR
  repeat' split
  all_goals first | (exact ⟨by decide, by decide⟩) | skip
  refine ⟨?_, Nat.zero_le _⟩
  show opL l < 28
  by_cases h : opL l = 0
  · omega
  · exact (opL_inv rfl h).2
def wordsN (op : Nat) : Nat := if op = 23 ∨ op = 25 then 2 else if op = 1 ∨ op = 17 ∨ op = 18 ∨ op = 19 ∨ op = 20 ∨ op = 21 ∨ op = 22 ∨ op = 24 ∨ op = 26 then 1 else 0
end Go.Proofs.YtalmgjeiopjhlaaGreatDoor
/- split, words, and the document's op, value. -/
namespace Go.Proofs.YtalmgjeiopjhlaaGreatDoor
open Go.Shelf Go.RowKit
set_option linter.unusedVariables false
set_option linter.unusedSimpArgs false
def opV (l : List UInt8) : Value := .tuple #[.int .u8 (((opR l).1 : Nat) : Int), .int .u8 (((opR l).2 : Nat) : Int)]
theorem opV_eq {l : List UInt8} {a b : Nat} (h : opR l = (a, b)) : opV l = .tuple #[.int .u8 ((a : Nat) : Int), .int .u8 ((b : Nat) : Int)] := by unfold opV; rw [h]
theorem snoc_of {s : ByteArray} (h : 0 < s.size) : ∃ p b, s.data.toList = p ++ [b] ∧ byteN s (s.size - 1) = b.toNat ∧ (cutS s (s.size - 1)).data.toList = p := by
  have hl := size_list s
  rw [← hl] at h
  obtain ⟨p, b, e⟩ : ∃ p b, s.data.toList = p ++ [b] := ⟨s.data.toList.dropLast, s.data.toList.getLast (by intro h'; rw [h'] at h; simp at h), (List.dropLast_concat_getLast _).symm⟩
  have hs : s.size - 1 = p.length := by rw [← hl, e, List.length_append]; simp
  refine ⟨p, b, e, ?_, ?_⟩
  · rw [hs]; unfold byteN; rw [e, List.getD_eq_getElem?_getD, List.getElem?_append_right (Nat.le_refl _)]; simp
  · rw [hs]; unfold cutS; rw [Lib.extract_data, e]; simp
set_option maxRecDepth 100000 in
set_option maxHeartbeats 1000000 in
theorem split_any (s : ByteArray) (w : World) (hs : s.size ≤ 281474976710656) : Calls Tryz.prog 60 #[.string s] w fun e w' => e = .returned (opV s.data.toList) ∧ Below w.heap.size w w' := by
  have HO := Lib.hid (op_any s w)
  rw [opL_of s] at HO
  have HR0 := Lib.hid (@opR_other s.data.toList)
  have HR1 := Lib.hid (@opR_bare s.data.toList)
  have HR2 := Lib.hid (@opR_zero s.data.toList)
  go_enter Tryz.func60, Tryz.ntmps60
  go_wp2_with fail
  refine HO.out.mono ?_
  rintro e w2 ⟨rfl, hb⟩
  have B2 := Lib.hid hb
  clear hb HO
  by_cases h0 : opL s.data.toList = 0
  case neg =>
    generalize hop : opL s.data.toList = op at *
    have t0 : ((op : Int) != 0) = true := bne_iff_ne.2 (by omega)
    by_cases h17 : op = 17
    · subst h17
      have HR := HR1.out (.inl rfl)
      clear HR0 HR1 HR2
      by_cases hz : s.size = 0
      · have te := empty_is hz
        go_wp2_with fail
        go_ret2
        exact ⟨by rw [opV_eq HR]; rfl, B2.out⟩
      · have te := empty_no (Nat.pos_of_ne_zero hz)
        go_wp2_with fail
        go_ret2
        exact ⟨by rw [opV_eq HR]; rfl, B2.out⟩
    have t17 : ((op : Int) != 17) = true := bne_iff_ne.2 (by omega)
    by_cases h18 : op = 18
    · subst h18
      have HR := HR1.out (.inr rfl)
      clear HR0 HR1 HR2
      by_cases hz : s.size = 0
      · have te := empty_is hz
        go_wp2_with fail
        go_ret2
        exact ⟨by rw [opV_eq HR]; rfl, B2.out⟩
      · have te := empty_no (Nat.pos_of_ne_zero hz)
        go_wp2_with fail
        go_ret2
        exact ⟨by rw [opV_eq HR]; rfl, B2.out⟩
    have t18 : ((op : Int) != 18) = true := bne_iff_ne.2 (by omega)
    have HR := HR0.out h0 h17 h18
    clear HR0 HR1 HR2
    go_wp2_with fail
    go_ret2
    exact ⟨by rw [opV_eq HR]; rfl, B2.out⟩
  case pos =>
  rw [h0]
  by_cases hz : s.size = 0
  · have te := empty_is hz
    have HR := HR2.out h0 (fun p b e => by have := size_list s; rw [e, hz] at this; simp at this)
    clear HR0 HR1 HR2
    go_wp2_with fail
    go_ret2
    exact ⟨by rw [opV_eq HR]; rfl, B2.out⟩
  have te := empty_no (Nat.pos_of_ne_zero hz)
  obtain ⟨p, b, e1, e2, e3⟩ := snoc_of (Nat.pos_of_ne_zero hz)
  have hi : ∀ W, (Instr.index 9 (.string s) (.int .i64 ((s.size : Int) - 1))).run Tryz.prog W = .ok (.int .u8 ((b.toNat : Nat) : Int)) W := fun W => by
    have := index_str s (s.size - 1) (by omega) 9 Tryz.underlying9 W
    rw [e2] at this
    rw [show ((s.size : Int) - 1) = ((s.size - 1 : Nat) : Int) by omega]; exact this
  have hc : ∀ W, (Instr.sliceAt 9 (.string s) none (some (.int .i64 ((s.size : Int) - 1))) none).run Tryz.prog W = .ok (.string (cutS s (s.size - 1))) W := fun W => by
    have := cut_run s (s.size - 1) (by omega) 9 Tryz.underlying9 W
    rw [show ((s.size : Int) - 1) = ((s.size - 1 : Nat) : Int) by omega]; exact this
  have HP := Lib.hid (fun W => op_any (cutS s (s.size - 1)) W)
  rw [opL_of, e3] at HP
  have HR3 : Hid ((opL p = 17 ∨ opL p = 18) → (b = 49 ∨ b = 50 ∨ b = 52) → opR s.data.toList = (opL p, b.toNat - 48)) := fun h1 h2 => by rw [e1]; exact opR_sized h1 h2
  have HR4 : Hid (¬ ((opL p = 17 ∨ opL p = 18) ∧ (b = 49 ∨ b = 50 ∨ b = 52)) → opR s.data.toList = (0, 0)) := fun h => HR2.out h0 (fun p' b' e => by
    rw [e1] at e
    obtain ⟨rfl, h2⟩ := List.append_inj' e rfl
    cases h2; exact h)
  have HB : ∀ k : Nat, k < 256 → (b.toNat = k ↔ b = UInt8.ofNat k) := fun k hk => ⟨fun h => by rw [← h]; simp, fun h => by rw [h]; simp; omega⟩
  have b49 := HB 49 (by decide); have b50 := HB 50 (by decide); have b52 := HB 52 (by decide)
  have hbl : b.toNat < 256 := UInt8.toNat_lt _
  generalize cutS s (s.size - 1) = cs at *
  clear e1 e2 e3 HR0 HR1 HR2 HB h0
  generalize hop : opL p = op at *
  go_wp2_with fail
  refine (HP.out _).mono ?_
  rintro e w3 ⟨rfl, hb⟩
  have B3 := Lib.hid (B2.out.trans (hb.mono B2.out.size))
  clear hb hc HP B2
  have hopl : op < 256 := by
    by_cases h : op = 0
    · omega
    · have := (opL_inv hop h).2; omega
  by_cases h1 : op = 17 ∨ op = 18
  case neg =>
    have HR := HR4.out (fun h => h1 h.1)
    have q1 : ((op : Int) != 17) = true := bne_iff_ne.2 (by omega)
    have q2 : ((op : Int) != 18) = true := bne_iff_ne.2 (by omega)
    clear HR3 HR4
    go_wp2_with fail
    go_ret2
    exact ⟨by rw [opV_eq HR]; rfl, B3.out⟩
  by_cases h2 : b = 49 ∨ b = 50 ∨ b = 52
  case neg =>
    have HR := HR4.out (fun h => h2 h.2)
    have q3 : ((b.toNat : Int) != 49) = true := bne_iff_ne.2 (fun h => h2 (.inl (b49.1 (by omega))))
    have q4 : ((b.toNat : Int) != 50) = true := bne_iff_ne.2 (fun h => h2 (.inr (.inl (b50.1 (by omega)))))
    have q5 : ((b.toNat : Int) != 52) = true := bne_iff_ne.2 (fun h => h2 (.inr (.inr (b52.1 (by omega)))))
    clear HR3 HR4 b49 b50 b52
    rcases h1 with rfl | rfl
    · skip
      go_wp2_with fail
      go_ret2
      exact ⟨by rw [opV_eq HR]; rfl, B3.out⟩
    · skip
      go_wp2_with fail
      go_ret2
      exact ⟨by rw [opV_eq HR]; rfl, B3.out⟩
  have HR := HR3.out h1 h2
  clear HR3 HR4 b49 b50 b52
  rcases h1 with rfl | rfl
  · rcases h2 with rfl | rfl | rfl
    · skip
      go_wp2_with fail
      go_ret2
      exact ⟨by rw [opV_eq HR]; rfl, B3.out⟩
    · skip
      go_wp2_with fail
      go_ret2
      exact ⟨by rw [opV_eq HR]; rfl, B3.out⟩
    · skip
      go_wp2_with fail
      go_ret2
      exact ⟨by rw [opV_eq HR]; rfl, B3.out⟩
  · rcases h2 with rfl | rfl | rfl
    · skip
      go_wp2_with fail
      go_ret2
      exact ⟨by rw [opV_eq HR]; rfl, B3.out⟩
    · skip
      go_wp2_with fail
      go_ret2
      exact ⟨by rw [opV_eq HR]; rfl, B3.out⟩
    · skip
      go_wp2_with fail
      go_ret2
      exact ⟨by rw [opV_eq HR]; rfl, B3.out⟩
end Go.Proofs.YtalmgjeiopjhlaaGreatDoor
/- words, and the document's op, value. -/
namespace Go.Proofs.YtalmgjeiopjhlaaGreatDoor
open Go.Shelf Go.RowKit
set_option linter.unusedVariables false
set_option linter.unusedSimpArgs false
set_option maxRecDepth 100000 in
theorem words_any (op : Nat) (w : World) : Calls Tryz.prog 61 #[.int .u8 (op : Int)] w fun e w' => e = .returned (.int .i64 ((wordsN op : Nat) : Int)) ∧ w' = w := by
  by_cases h23 : op = 23
  · subst h23
    go_enter Tryz.func61, Tryz.ntmps61
    go_wp2_with fail
    go_ret
    exact ⟨rfl, rfl⟩
  have t23 : ((op : Int) == 23) = false := beq_eq_false_iff_ne.2 (by omega)
  by_cases h25 : op = 25
  · subst h25
    go_enter Tryz.func61, Tryz.ntmps61
    go_wp2_with fail
    go_ret
    exact ⟨rfl, rfl⟩
  have t25 : ((op : Int) == 25) = false := beq_eq_false_iff_ne.2 (by omega)
  by_cases h1 : op = 1
  · subst h1
    go_enter Tryz.func61, Tryz.ntmps61
    go_wp2_with fail
    go_ret
    exact ⟨rfl, rfl⟩
  have t1 : ((op : Int) == 1) = false := beq_eq_false_iff_ne.2 (by omega)
  by_cases h17 : op = 17
  · subst h17
    go_enter Tryz.func61, Tryz.ntmps61
    go_wp2_with fail
    go_ret
    exact ⟨rfl, rfl⟩
  have t17 : ((op : Int) == 17) = false := beq_eq_false_iff_ne.2 (by omega)
  by_cases h18 : op = 18
  · subst h18
    go_enter Tryz.func61, Tryz.ntmps61
    go_wp2_with fail
    go_ret
    exact ⟨rfl, rfl⟩
  have t18 : ((op : Int) == 18) = false := beq_eq_false_iff_ne.2 (by omega)
  by_cases h19 : op = 19
  · subst h19
    go_enter Tryz.func61, Tryz.ntmps61
    go_wp2_with fail
    go_ret
    exact ⟨rfl, rfl⟩
  have t19 : ((op : Int) == 19) = false := beq_eq_false_iff_ne.2 (by omega)
  by_cases h20 : op = 20
  · subst h20
    go_enter Tryz.func61, Tryz.ntmps61
    go_wp2_with fail
    go_ret
    exact ⟨rfl, rfl⟩
  have t20 : ((op : Int) == 20) = false := beq_eq_false_iff_ne.2 (by omega)
  by_cases h21 : op = 21
  · subst h21
    go_enter Tryz.func61, Tryz.ntmps61
    go_wp2_with fail
    go_ret
    exact ⟨rfl, rfl⟩
  have t21 : ((op : Int) == 21) = false := beq_eq_false_iff_ne.2 (by omega)
  by_cases h22 : op = 22
  · subst h22
    go_enter Tryz.func61, Tryz.ntmps61
    go_wp2_with fail
    go_ret
    exact ⟨rfl, rfl⟩
  have t22 : ((op : Int) == 22) = false := beq_eq_false_iff_ne.2 (by omega)
  by_cases h24 : op = 24
  · subst h24
    go_enter Tryz.func61, Tryz.ntmps61
    go_wp2_with fail
    go_ret
    exact ⟨rfl, rfl⟩
  have t24 : ((op : Int) == 24) = false := beq_eq_false_iff_ne.2 (by omega)
  by_cases h26 : op = 26
  · subst h26
    go_enter Tryz.func61, Tryz.ntmps61
    go_wp2_with fail
    go_ret
    exact ⟨rfl, rfl⟩
  have t26 : ((op : Int) == 26) = false := beq_eq_false_iff_ne.2 (by omega)
  have e : wordsN op = 0 := by unfold wordsN; rw [if_neg (by omega), if_neg (by omega)]
  rw [e]
  go_enter Tryz.func61, Tryz.ntmps61
  go_wp2_with fail
  go_ret
  exact ⟨rfl, rfl⟩
theorem eq_lit (s : ByteArray) (l : List UInt8) : (s.toList == l) = decide (s.data.toList = l) := by
  rw [ByteArray.toList_eq]
  by_cases h : s.data.toList = l
  · rw [h]; simp
  · rw [decide_eq_false h]; exact beq_eq_false_iff_ne.2 h
theorem opR_not {l : List UInt8} (h1 : l ≠ sLoad ++ [49]) (h2 : l ≠ sLoad ++ [50]) (h3 : l ≠ sLoad ++ [52]) (h4 : l ≠ sStore ++ [49]) (h5 : l ≠ sStore ++ [50]) (h6 : l ≠ sStore ++ [52]) (h7 : l ≠ sLoad) (h8 : l ≠ sStore) : opR l = (opL l, 0) := by
  unfold opR
  rw [if_neg h1, if_neg h2, if_neg h3, if_neg h4, if_neg h5, if_neg h6, if_neg (fun h => h.elim h7 h8)]
set_option maxRecDepth 100000 in
set_option maxHeartbeats 1000000 in
theorem rop_all (s : ByteArray) (w : World) : Calls Tryz.prog 64 #[.string s] w fun e w' => e = .returned (opV s.data.toList) ∧ Below w.heap.size w w' := by
  have HO := Lib.hid (rop_any s)
  rw [opL_of s] at HO
  by_cases h1 : s.data.toList = sLoad ++ [49]
  · have e1 : (s.toList == [108, 111, 97, 100, 49]) = true := (eq_lit s [108, 111, 97, 100, 49]).trans (decide_eq_true h1)
    rw [h1]
    clear HO
    go_enter Tryz.func64, Tryz.ntmps64
    go_wp2_with fail
    go_ret2
    exact ⟨rfl, Below.refl _ _⟩
  have e1 : (s.toList == [108, 111, 97, 100, 49]) = false := (eq_lit s [108, 111, 97, 100, 49]).trans (decide_eq_false h1)
  by_cases h2 : s.data.toList = sLoad ++ [50]
  · have e2 : (s.toList == [108, 111, 97, 100, 50]) = true := (eq_lit s [108, 111, 97, 100, 50]).trans (decide_eq_true h2)
    rw [h2]
    clear HO
    go_enter Tryz.func64, Tryz.ntmps64
    go_wp2_with fail
    go_ret2
    exact ⟨rfl, Below.refl _ _⟩
  have e2 : (s.toList == [108, 111, 97, 100, 50]) = false := (eq_lit s [108, 111, 97, 100, 50]).trans (decide_eq_false h2)
  by_cases h3 : s.data.toList = sLoad ++ [52]
  · have e3 : (s.toList == [108, 111, 97, 100, 52]) = true := (eq_lit s [108, 111, 97, 100, 52]).trans (decide_eq_true h3)
    rw [h3]
    clear HO
    go_enter Tryz.func64, Tryz.ntmps64
    go_wp2_with fail
    go_ret2
    exact ⟨rfl, Below.refl _ _⟩
  have e3 : (s.toList == [108, 111, 97, 100, 52]) = false := (eq_lit s [108, 111, 97, 100, 52]).trans (decide_eq_false h3)
  by_cases h4 : s.data.toList = sStore ++ [49]
  · have e4 : (s.toList == [115, 116, 111, 114, 101, 49]) = true := (eq_lit s [115, 116, 111, 114, 101, 49]).trans (decide_eq_true h4)
    rw [h4]
    clear HO
    go_enter Tryz.func64, Tryz.ntmps64
    go_wp2_with fail
    go_ret2
    exact ⟨rfl, Below.refl _ _⟩
  have e4 : (s.toList == [115, 116, 111, 114, 101, 49]) = false := (eq_lit s [115, 116, 111, 114, 101, 49]).trans (decide_eq_false h4)
  by_cases h5 : s.data.toList = sStore ++ [50]
  · have e5 : (s.toList == [115, 116, 111, 114, 101, 50]) = true := (eq_lit s [115, 116, 111, 114, 101, 50]).trans (decide_eq_true h5)
    rw [h5]
    clear HO
    go_enter Tryz.func64, Tryz.ntmps64
    go_wp2_with fail
    go_ret2
    exact ⟨rfl, Below.refl _ _⟩
  have e5 : (s.toList == [115, 116, 111, 114, 101, 50]) = false := (eq_lit s [115, 116, 111, 114, 101, 50]).trans (decide_eq_false h5)
  by_cases h6 : s.data.toList = sStore ++ [52]
  · have e6 : (s.toList == [115, 116, 111, 114, 101, 52]) = true := (eq_lit s [115, 116, 111, 114, 101, 52]).trans (decide_eq_true h6)
    rw [h6]
    clear HO
    go_enter Tryz.func64, Tryz.ntmps64
    go_wp2_with fail
    go_ret2
    exact ⟨rfl, Below.refl _ _⟩
  have e6 : (s.toList == [115, 116, 111, 114, 101, 52]) = false := (eq_lit s [115, 116, 111, 114, 101, 52]).trans (decide_eq_false h6)
  by_cases h7 : s.data.toList = sLoad
  · have e7 : (s.toList == [108, 111, 97, 100]) = true := (eq_lit s [108, 111, 97, 100]).trans (decide_eq_true h7)
    rw [h7]
    clear HO
    go_enter Tryz.func64, Tryz.ntmps64
    go_wp2_with fail
    go_ret2
    exact ⟨rfl, Below.refl _ _⟩
  have e7 : (s.toList == [108, 111, 97, 100]) = false := (eq_lit s [108, 111, 97, 100]).trans (decide_eq_false h7)
  by_cases h8 : s.data.toList = sStore
  · have e8 : (s.toList == [115, 116, 111, 114, 101]) = true := (eq_lit s [115, 116, 111, 114, 101]).trans (decide_eq_true h8)
    rw [h8]
    clear HO
    go_enter Tryz.func64, Tryz.ntmps64
    go_wp2_with fail
    go_ret2
    exact ⟨rfl, Below.refl _ _⟩
  have e8 : (s.toList == [115, 116, 111, 114, 101]) = false := (eq_lit s [115, 116, 111, 114, 101]).trans (decide_eq_false h8)
  have HR := opR_not h1 h2 h3 h4 h5 h6 h7 h8
  clear h1 h2 h3 h4 h5 h6 h7 h8
  rw [opV_eq HR]
  generalize opL s.data.toList = op at *
  clear HR
  go_enter Tryz.func64, Tryz.ntmps64
  go_wp2_with fail
  refine (HO.out _).mono ?_
  rintro e w2 ⟨rfl, hb⟩
  have B2 := Lib.hid hb
  clear hb
  go_wp2_with fail
  go_ret2
  exact ⟨rfl, B2.out⟩
def valV (s : ByteArray) (most : Nat) : Int := match numL s.data.toList with | some n => if most < n then -1 else (n : Int) | none => -1
theorem numL_le {l : List UInt8} {n : Nat} (h : numL l = some n) : n ≤ 4294967295 := by
  cases l with
  | nil => cases h
  | cons c r =>
    have h' : (if c.toNat = 48 ∧ r ≠ [] then none else numM 0 (c :: r)) = some n := h
    by_cases h3 : c.toNat = 48 ∧ r ≠ []
    · rw [if_pos h3] at h'; cases h'
    · rw [if_neg h3] at h'
      exact (numM_val _ _ _ h').2.2 (by omega)
set_option maxRecDepth 100000 in
theorem rvalue_any (s : ByteArray) (most : Nat) (w : World) (hs : s.size ≤ 281474976710656) (hmo : most < 4294967296) : Calls Tryz.prog 65 #[.string s, .int .u32 (most : Int)] w fun e w' => e = .returned (.int .i64 (valV s most)) ∧ w' = w := by
  have HN := Lib.hid (rnumber_any s w hs)
  unfold numR at HN
  have HLE := @numL_le s.data.toList
  have HV : valV s most = match numL s.data.toList with | some n => if most < n then -1 else (n : Int) | none => -1 := rfl
  cases hx : numL s.data.toList with
  | none =>
    rw [hx] at HN HV
    have HV : valV s most = -1 := HV
    rw [HV]
    have HN := Lib.hid (show Calls Tryz.prog 90 #[.string s] w fun e w' => e = .returned (.tuple #[.int .u32 0, .bool false]) ∧ w' = w from HN.out)
    clear HLE HV
    go_enter Tryz.func65, Tryz.ntmps65
    go_wp2_with fail
    refine HN.out.mono ?_
    rintro e w2 ⟨rfl, hw⟩
    obtain rfl : w = w2 := hw.symm
    go_wp2_with fail
    go_ret
    exact ⟨rfl, rfl⟩
  | some n =>
    have hn := HLE hx
    rw [hx] at HN HV
    have HV : valV s most = if most < n then -1 else (n : Int) := HV
    have HN := Lib.hid (show Calls Tryz.prog 90 #[.string s] w fun e w' => e = .returned (.tuple #[.int .u32 ((n : Nat) : Int), .bool true]) ∧ w' = w from HN.out)
    clear HLE
    by_cases hm : most < n
    · have t1 : decide ((most : Int) < (n : Int)) = true := decide_eq_true (by omega)
      rw [HV, if_pos hm]
      clear HV
      go_enter Tryz.func65, Tryz.ntmps65
      go_wp2_with fail
      refine HN.out.mono ?_
      rintro e w2 ⟨rfl, hw⟩
      obtain rfl : w = w2 := hw.symm
      go_wp2_with fail
      go_ret
      exact ⟨rfl, rfl⟩
    · have t1 : decide ((most : Int) < (n : Int)) = false := decide_eq_false (by omega)
      rw [HV, if_neg hm]
      clear HV
      go_enter Tryz.func65, Tryz.ntmps65
      go_wp2_with fail
      refine HN.out.mono ?_
      rintro e w2 ⟨rfl, hw⟩
      obtain rfl : w = w2 := hw.symm
      go_wp2_with fail
      go_ret
      exact ⟨rfl, rfl⟩
end Go.Proofs.YtalmgjeiopjhlaaGreatDoor
