/- Plain: what is parsed may be, and is written no longer than it was; what is assembled; instructions are read from their bytes. -/
import Derived.Test.YtalmgjeiopjhlaaGreatDoorAsmBk
import Derived.Test.YtalmgjeiopjhlaaGreatDoorAsmBy
namespace Go.Proofs.YtalmgjeiopjhlaaGreatDoor
set_option linter.unusedVariables false
set_option linter.unusedSimpArgs false
set_option maxRecDepth 100000
theorem opR_inv {l : List UInt8} {o z : Nat} (h : opR l = (o, z)) (h0 : o ≠ 0) :
    ((o = 17 ∨ o = 18) ∧ (z = 1 ∨ z = 2 ∨ z = 4) ∧ l = (rowAt o).name ++ Lib.decDigits z) ∨ (o ≠ 17 ∧ o ≠ 18 ∧ z = 0 ∧ l = (rowAt o).name ∧ o < 28) := by
  unfold opR at h
  split at h
  · obtain ⟨rfl, rfl⟩ := Prod.mk.inj h; left; rename_i e; refine ⟨by decide, by decide, ?_⟩; rw [e, dec_one (by decide)]; rfl
  split at h
  · obtain ⟨rfl, rfl⟩ := Prod.mk.inj h; left; rename_i e; refine ⟨by decide, by decide, ?_⟩; rw [e, dec_one (by decide)]; rfl
  split at h
  · obtain ⟨rfl, rfl⟩ := Prod.mk.inj h; left; rename_i e; refine ⟨by decide, by decide, ?_⟩; rw [e, dec_one (by decide)]; rfl
  split at h
  · obtain ⟨rfl, rfl⟩ := Prod.mk.inj h; left; rename_i e; refine ⟨by decide, by decide, ?_⟩; rw [e, dec_one (by decide)]; rfl
  split at h
  · obtain ⟨rfl, rfl⟩ := Prod.mk.inj h; left; rename_i e; refine ⟨by decide, by decide, ?_⟩; rw [e, dec_one (by decide)]; rfl
  split at h
  · obtain ⟨rfl, rfl⟩ := Prod.mk.inj h; left; rename_i e; refine ⟨by decide, by decide, ?_⟩; rw [e, dec_one (by decide)]; rfl
  split at h
  · obtain ⟨rfl, rfl⟩ := Prod.mk.inj h; exact absurd rfl h0
  rename_i hn
  obtain ⟨e, rfl⟩ := Prod.mk.inj h
  right
  have hi := opL_inv e h0
  refine ⟨?_, ?_, rfl, hi.1, hi.2⟩
  · rintro rfl; exact hn (.inl hi.1)
  · rintro rfl; exact hn (.inr hi.1)
theorem e_empty : eS.toList.isEmpty = true := empty_list.2 rfl
theorem dec_bytes {s : ByteArray} {n : Nat} (h : numL s.data.toList = some n) : bytesOf (Lib.decDigits n) = s := by rw [(numL_inv h).1, bytesOf_of]
theorem len_one {vs : List ByteArray} (h : vs.length = 1) : vs = [vs.getD 0 eS] := by
  match vs, h with
  | [v], _ => rfl
theorem len_two {vs : List ByteArray} (h : vs.length = 2) : vs = [vs.getD 0 eS, vs.getD 1 eS] := by
  match vs, h with
  | [v, u], _ => rfl
theorem wn0 : ∀ o, o < 28 → o ≠ 0 → wordsN o = 0 → (rowAt o).nm = 0 := by decide
theorem wn1 : ∀ o, o < 28 → o ≠ 0 → wordsN o = 1 → o = 1 ∨ (17 ≤ o ∧ o ≤ 22) ∨ o = 24 ∨ o = 26 := by decide
theorem wn2 : ∀ o, o < 28 → o ≠ 0 → wordsN o ≠ 0 → wordsN o ≠ 1 → (o = 23 ∨ o = 25) := by decide
theorem lab_nonempty {s : ByteArray} (h : labelB s = true) : ¬ s.toList.isEmpty = true := fun e => by
  have h1 := (labL_all h).1
  exact h1 (empty_list.1 e)
theorem rest_fwd {lab : ByteArray} {ws : List ByteArray} {x : AL} (hlab : lab.toList.isEmpty = true ∨ labelB lab = true) (hs : lab.size ≤ 1000000) (hw : ∀ q ∈ ws, q.size ≤ 1000000) (h : restS lab ws = (0, x)) :
    x.may = true ∧ x.ok ∧ x.lab = lab ∧ (bodW x).map bytesOf = ws := by
  cases ws with
  | nil => cases h
  | cons n vs =>
    change opS lab (opR n.data.toList).1 (opR n.data.toList).2 vs = (0, x) at h
    generalize hop : opR n.data.toList = oz at h
    obtain ⟨o, z⟩ := oz
    simp only at h
    by_cases h0 : o = 0 ∨ vs.length ≠ wordsN o
    · rw [opS, if_pos h0] at h; cases h
    have hn0 : o ≠ 0 := fun e => h0 (.inl e)
    have hl : vs.length = wordsN o := Classical.not_not.1 fun e => h0 (.inr e)
    have ho28 : o < 28 := by have := (opR_lt n.data.toList).1; rw [hop] at this; exact this
    have hi := opR_inv hop hn0
    have hnb : ∀ p, n.data.toList = p → bytesOf p = n := fun p e => by rw [← e, bytesOf_of]
    by_cases hw0 : wordsN o = 0
    · rw [opS, if_neg h0, if_pos hw0] at h
      rcases hi with ⟨ho, _⟩ | ⟨h17, h18, rfl, hn, ho⟩
      · rcases ho with rfl | rfl <;> exact absurd hw0 (by decide)
      obtain ⟨_, rfl⟩ := Prod.mk.inj h
      have L := leaf0 hlab hs hn0 ho hw0 (hl.trans hw0)
      refine ⟨?_, L.ok, rfl, ?_⟩
      · rw [may_plain hlab]
        have : ∀ o, o < 28 → o ≠ 0 → wordsN o = 0 → mayI o 0 0 0 = true := by decide
        exact this o ho hn0 hw0
      · unfold bodW
        rw [if_pos e_empty]
        show (if (rowAt o).nm = 0 then _ else _ : List (List UInt8)).map bytesOf = _
        rw [if_pos (wn0 o ho hn0 hw0), List.length_eq_zero_iff.1 (hl.trans hw0)]
        show [bytesOf (rowAt o).name] = _
        rw [hnb _ hn]
    rw [opS, if_neg h0, if_neg hw0] at h
    by_cases hw1 : wordsN o = 1
    · have h1 := wn1 o ho28 hn0 hw1
      rw [len_one (hl.trans hw1)] at hw h ⊢
      generalize vs.getD 0 eS = v0 at *
      have hv0 : v0.size ≤ 1000000 := hw v0 (by simp)
      change argS lab o z v0 eS = (0, x) at h
      unfold argS at h
      by_cases hj : (jumpB o && labelB v0) = true
      · rw [if_pos hj] at h
        rw [Bool.and_eq_true] at hj
        have hj1 := (jump_nm hj.1).1
        have ho : o = 19 ∨ o = 20 := by have := hj.1; unfold jumpB at this; simp at this; exact this
        rcases hi with ⟨ho', _⟩ | ⟨h17, h18, rfl, hn, _⟩
        · omega
        obtain ⟨_, rfl⟩ := Prod.mk.inj h
        have L := leafJ (vs := [v0]) hlab hs ho rfl rfl hj.2 hv0
        refine ⟨?_, L.ok, rfl, ?_⟩
        · rw [alm_of hlab, hj.1, hj.2]
          have : mayI o 0 0 0 = true := by rcases ho with rfl | rfl <;> rfl
          rw [this]; simp
        · unfold bodW
          rw [if_neg (lab_nonempty hj.2)]
          show [bytesOf (rowAt o).name, bytesOf v0.data.toList] = _
          rw [hnb _ hn, bytesOf_of]
      rw [if_neg hj] at h
      by_cases hc : o = 1 ∨ (17 ≤ o ∧ o ≤ 20)
      · rw [if_pos hc] at h
        cases hv : numL v0.data.toList with
        | none => rw [hv] at h; cases h
        | some c =>
          rw [hv] at h
          obtain ⟨_, rfl⟩ := Prod.mk.inj h
          have hc32 := (numL_inv hv).2
          have hz : (o = 1 ∨ o = 19 ∨ o = 20) ∧ z = 0 ∨ (o = 17 ∨ o = 18) ∧ (z = 1 ∨ z = 2 ∨ z = 4) := by
            rcases hi with ⟨a, b, _⟩ | ⟨a, b, rfl, _⟩
            · exact .inr ⟨a, b⟩
            · exact .inl ⟨by omega, rfl⟩
          have L := leafW (vs := [v0]) hlab hs hz rfl (v0 := v0) rfl (Bool.eq_false_iff.2 hj) hc32 (fun n hn => by rw [hv] at hn; exact Option.some.inj hn)
          refine ⟨?_, L.ok, rfl, ?_⟩
          · rw [may_plain hlab]
            rcases hz with ⟨rfl | rfl | rfl, rfl⟩ | ⟨rfl | rfl, rfl | rfl | rfl⟩ <;> rfl
          · unfold bodW
            rw [if_pos e_empty]
            rcases hi with ⟨ho, hz2, hn⟩ | ⟨h17, h18, rfl, hn, _⟩
            · have e : (rowAt o).nm = 12 := by rcases ho with rfl | rfl <;> rfl
              show (if (rowAt o).nm = 0 then _ else if (rowAt o).nm = 1 then _ else if (rowAt o).nm = 3 then _ else if (rowAt o).nm = 4 then _ else [(rowAt o).name ++ Lib.decDigits z, Lib.decDigits c] : List (List UInt8)).map bytesOf = _
              rw [e, if_neg (by decide), if_neg (by decide), if_neg (by decide), if_neg (by decide)]
              show [bytesOf ((rowAt o).name ++ Lib.decDigits z), bytesOf (Lib.decDigits c)] = _
              rw [hnb _ hn, dec_bytes hv]
            · have e : (rowAt o).nm = 4 := by
                have : o = 1 ∨ o = 19 ∨ o = 20 := by omega
                rcases this with rfl | rfl | rfl <;> rfl
              show (if (rowAt o).nm = 0 then _ else if (rowAt o).nm = 1 then _ else if (rowAt o).nm = 3 then _ else if (rowAt o).nm = 4 then [(rowAt o).name, Lib.decDigits c] else _ : List (List UInt8)).map bytesOf = _
              rw [e, if_neg (by decide), if_neg (by decide), if_neg (by decide), if_pos rfl]
              show [bytesOf (rowAt o).name, bytesOf (Lib.decDigits c)] = _
              rw [hnb _ hn, dec_bytes hv]
      rw [if_neg hc] at h
      have ho : o = 21 ∨ o = 22 ∨ o = 24 ∨ o = 26 := by omega
      rcases hi with ⟨ho', _⟩ | ⟨h17, h18, rfl, hn, _⟩
      · omega
      cases hv : numL v0.data.toList with
      | none => rw [hv] at h; cases h
      | some a =>
        rw [hv] at h
        by_cases ha : 15 < a
        · change (if 15 < a then (42, al0) else _) = (0, x) at h
          rw [if_pos ha] at h; cases h
        change (if 15 < a then (42, al0) else if wordsN o = 2 then _ else (0, ⟨lab, ⟨o, a, 0, 0⟩, eS⟩)) = (0, x) at h
        rw [if_neg ha, if_neg (by rw [hw1]; decide)] at h
        obtain ⟨_, rfl⟩ := Prod.mk.inj h
        refine ⟨?_, ok_of hs eS_size ho28 (by omega) (by omega) (by omega), rfl, ?_⟩
        · rw [may_plain hlab]
          have : mayI o a 0 0 = decide (a < 16) := by rcases ho with rfl | rfl | rfl | rfl <;> rfl
          rw [this]; exact decide_eq_true (by omega)
        · unfold bodW
          rw [if_pos e_empty]
          have e : (rowAt o).nm = 1 := by rcases ho with rfl | rfl | rfl | rfl <;> rfl
          show (if (rowAt o).nm = 0 then _ else if (rowAt o).nm = 1 then [(rowAt o).name, Lib.decDigits a] else _ : List (List UInt8)).map bytesOf = _
          rw [e, if_neg (by decide), if_pos rfl]
          show [bytesOf (rowAt o).name, bytesOf (Lib.decDigits a)] = _
          rw [hnb _ hn, dec_bytes hv]
    · have ho := wn2 o ho28 hn0 hw0 hw1
      have hw2 : wordsN o = 2 := by rcases ho with rfl | rfl <;> rfl
      rw [len_two (hl.trans hw2)] at hw h ⊢
      generalize vs.getD 0 eS = v0 at *
      generalize vs.getD 1 eS = v1 at *
      change argS lab o z v0 v1 = (0, x) at h
      unfold argS at h
      rcases hi with ⟨ho', _⟩ | ⟨h17, h18, rfl, hn, _⟩
      · omega
      rw [show jumpB o = false by rcases ho with rfl | rfl <;> rfl, Bool.false_and, if_neg (by decide), if_neg (by omega)] at h
      cases hv : numL v0.data.toList with
      | none => rw [hv] at h; cases h
      | some a =>
        rw [hv] at h
        by_cases ha : 15 < a
        · change (if 15 < a then (42, al0) else _) = (0, x) at h
          rw [if_pos ha] at h; cases h
        change (if 15 < a then (42, al0) else if wordsN o = 2 then (match numL v1.data.toList with | some b => if 15 < b then (42, al0) else (0, ⟨lab, ⟨o, a, b, 0⟩, eS⟩) | none => (42, al0)) else _) = (0, x) at h
        rw [if_neg ha, if_pos hw2] at h
        cases hu : numL v1.data.toList with
        | none => rw [hu] at h; cases h
        | some b =>
          rw [hu] at h
          by_cases hb : 15 < b
          · change (if 15 < b then (42, al0) else _) = (0, x) at h
            rw [if_pos hb] at h; cases h
          change (if 15 < b then (42, al0) else (0, ⟨lab, ⟨o, a, b, 0⟩, eS⟩)) = (0, x) at h
          rw [if_neg hb] at h
          obtain ⟨_, rfl⟩ := Prod.mk.inj h
          refine ⟨?_, ok_of hs eS_size ho28 (by omega) (by omega) (by omega), rfl, ?_⟩
          · rw [may_plain hlab]
            have : mayI o a b 0 = (decide (b < 16) && decide (a < 16)) := by rcases ho with rfl | rfl <;> rfl
            rw [this, decide_eq_true (by omega), decide_eq_true (by omega)]; rfl
          · unfold bodW
            rw [if_pos e_empty]
            have e : (rowAt o).nm = 3 := by rcases ho with rfl | rfl <;> rfl
            show (if (rowAt o).nm = 0 then _ else if (rowAt o).nm = 1 then _ else if (rowAt o).nm = 3 then [(rowAt o).name, Lib.decDigits a, Lib.decDigits b] else _ : List (List UInt8)).map bytesOf = _
            rw [e, if_neg (by decide), if_neg (by decide), if_pos rfl]
            show [bytesOf (rowAt o).name, bytesOf (Lib.decDigits a), bytesOf (Lib.decDigits b)] = _
            rw [hnb _ hn, dec_bytes hv, dec_bytes hu]
theorem strip_of {s : ByteArray} (h : colonB s = true) : bytesOf ((stripB s).data.toList ++ [58]) = s ∧ (stripB s).size ≤ s.size := by
  unfold colonB at h
  have h2 := h
  unfold Lib.hasSuffix at h2
  rw [List.isSuffixOf_iff_suffix] at h2
  obtain ⟨q, hq⟩ := h2
  have e : (stripB s).data.toList = q := by
    unfold stripB Lib.trimSuffix
    rw [if_pos h, ← hq, List.length_append, List.length_singleton, Nat.add_sub_cancel, List.take_left' rfl]
  refine ⟨by rw [e, hq, bytesOf_of], ?_⟩
  rw [← size_list, ← size_list, e, ← hq]; simp
theorem line_fwd {ws : List ByteArray} {x : AL} (hw : ∀ q ∈ ws, q.size ≤ 1000000) (h : lineS ws = (0, x)) : x.may = true ∧ x.ok ∧ (wordsX x).map bytesOf = ws := by
  unfold lineS at h
  by_cases hc : colonB (ws.getD 0 eS) = true
  · rw [if_pos hc] at h
    cases ws with
    | nil => exact absurd hc (by decide)
    | cons v r =>
      change (if labelB (stripB v) then restS (stripB v) r else (101, al0)) = (0, x) at h
      change colonB v = true at hc
      by_cases hl : labelB (stripB v) = true
      · rw [if_pos hl] at h
        have hst := strip_of hc
        obtain ⟨h1, h2, h3, h4⟩ := rest_fwd (.inr hl) (Nat.le_trans hst.2 (hw v (by simp))) (fun q hq => hw q (List.mem_cons_of_mem _ hq)) h
        refine ⟨h1, h2, ?_⟩
        unfold wordsX labW
        rw [h3, if_neg (lab_nonempty hl), List.map_append, h4]
        show [bytesOf _] ++ r = _
        rw [hst.1]; rfl
      · rw [if_neg hl] at h; cases h
  · rw [if_neg hc] at h
    obtain ⟨h1, h2, h3, h4⟩ := rest_fwd (.inl e_empty) eS_size hw h
    refine ⟨h1, h2, ?_⟩
    unfold wordsX labW
    rw [h3, if_pos e_empty]; exact h4
theorem map_bytes_inj {p q : List (List UInt8)} (h : p.map bytesOf = q.map bytesOf) : p = q := by
  have := congrArg (List.map (fun b : ByteArray => b.data.toList)) h
  rw [List.map_map, List.map_map] at this
  simpa [bytesOf, Function.comp_def] using this
theorem one_fwd {l : List UInt8} {x : AL} (hl : l.length ≤ 1000000) (h : lineS (wordsB l) = (0, x)) : x.may = true ∧ x.ok ∧ (linL x).length ≤ l.length + 1 := by
  have hw : ∀ q ∈ wordsB l, q.size ≤ 1000000 := fun q hq => by
    obtain ⟨y, hy, rfl⟩ := List.mem_map.1 hq
    have := (wordsL_nonempty hy).2
    rw [← size_list, bytesOf_data]; omega
  obtain ⟨h1, h2, h3⟩ := line_fwd hw h
  refine ⟨h1, h2, ?_⟩
  rw [lin_len_sum h1, map_bytes_inj h3]
  exact sumL l
def lensS (ls : List (List UInt8)) : Nat := (ls.map fun l => l.length + 1).sum
theorem lensS_cons (l : List UInt8) (ls : List (List UInt8)) : lensS (l :: ls) = l.length + 1 + lensS ls := rfl
theorem part_lens (c : UInt8) : ∀ (l : List UInt8), lensS (partL c l) = l.length + 1 ∧ ∀ x ∈ partL c l, x.length ≤ l.length
  | [] => ⟨rfl, fun x hx => by simp [partL] at hx; rw [hx]; exact Nat.le_refl _⟩
  | b :: r => by
    have ih := part_lens c r
    by_cases hb : b = c
    · subst hb
      rw [partL_hit, lensS_cons, ih.1]
      refine ⟨by simp; omega, fun x hx => ?_⟩
      rcases List.mem_cons.1 hx with rfl | hx
      · simp
      · have := ih.2 x hx; simp; omega
    · cases hp : partL c r with
      | nil => exact absurd hp (partL_ne c r)
      | cons y t =>
        rw [hp] at ih
        rw [partL_miss hb hp, lensS_cons]
        have h1 := ih.1
        rw [lensS_cons] at h1
        refine ⟨by simp; omega, fun x hx => ?_⟩
        rcases List.mem_cons.1 hx with rfl | hx
        · have := ih.2 y (by simp); simp; omega
        · have := ih.2 x (List.mem_cons_of_mem _ hx); simp; omega
theorem parseG_fwd : ∀ (ls : List (List UInt8)) (n : Nat) (acc m : List AL) (k : Nat), (∀ l ∈ ls, l.length ≤ 1000000) → parseG n acc ls = (m, k, 0) → acc.length ≤ 16384 →
    ∃ r, m = acc ++ r ∧ (∀ x ∈ r, x.may = true ∧ x.ok) ∧ m.length ≤ 16384 ∧ (r.flatMap linL).length ≤ lensS ls
  | [], n, acc, m, k, _, h, ha => by
    unfold parseG at h
    obtain ⟨rfl, _⟩ := Prod.mk.inj h
    exact ⟨[], by simp, by simp, ha, by simp⟩
  | l :: ls, n, acc, m, k, hl, h, ha => by
    have hl1 := hl l (by simp)
    have hl2 : ∀ y ∈ ls, y.length ≤ 1000000 := fun y hy => hl y (List.mem_cons_of_mem _ hy)
    rw [lensS_cons]
    by_cases hw : wordsL l = []
    · rw [parseG_blank hw] at h
      obtain ⟨r, h1, h2, h3, h4⟩ := parseG_fwd ls _ acc m k hl2 h ha
      exact ⟨r, h1, h2, h3, by omega⟩
    by_cases he : (lineS (wordsB l)).1 = 0
    · by_cases hf : acc.length = 16384
      · rw [parseG_long hw he hf] at h
        have := (Prod.mk.inj (Prod.mk.inj h).2).2
        exact absurd this (by decide)
      · rw [parseG_line hw he hf] at h
        obtain ⟨r, h1, h2, h3, h4⟩ := parseG_fwd ls _ _ m k hl2 h (by rw [List.length_append]; simp; omega)
        have ho := one_fwd (x := (lineS (wordsB l)).2) hl1 (Prod.ext he rfl)
        refine ⟨(lineS (wordsB l)).2 :: r, by rw [h1]; simp, fun x hx => ?_, h3, ?_⟩
        · rcases List.mem_cons.1 hx with rfl | hx
          · exact ⟨ho.1, ho.2.1⟩
          · exact h2 x hx
        · rw [List.flatMap_cons, List.length_append]
          have := ho.2.2
          omega
    · rw [parseG_bad hw he] at h
      exact absurd (Prod.mk.inj (Prod.mk.inj h).2).2 he
theorem mem_getD {α : Type} {d : α} {ls : List α} {i : Nat} (h : i < ls.length) : ls.getD i d ∈ ls := by
  rw [List.getD_eq_getElem?_getD, List.getElem?_eq_getElem h]; exact List.getElem_mem h
/-- What is parsed may be; it is written, and parsed as the same. -/
theorem back2 {s : List UInt8} {m : List AL} {k : Nat} (h : parseS s = (m, k, 0)) (hs : s.length ≤ 20000) :
    (∀ i, i < m.length → (m.getD i al0).may = true) ∧ (∀ i, i < m.length → (m.getD i al0).ok) ∧ m.length ≤ 16384 ∧ (textK m m.length).length ≤ 20001 ∧ parseS (textS m).data.toList = (m, 0, 0) := by
  have h0 := h
  unfold parseS at h
  rw [if_neg (by omega)] at h
  have hp := part_lens 10 s
  obtain ⟨r, h1, h2, h3, h4⟩ := parseG_fwd _ _ _ _ _ (fun l hl => by have := hp.2 l hl; omega) h (Nat.zero_le _)
  rw [List.nil_append] at h1
  subst h1
  rw [hp.1, ← textK_flat] at h4
  have a1 : ∀ i, i < m.length → (m.getD i al0).may = true := fun i hi => (h2 _ (mem_getD hi)).1
  have a2 : ∀ i, i < m.length → (m.getD i al0).ok := fun i hi => (h2 _ (mem_getD hi)).2
  exact ⟨a1, a2, h3, by omega, back1 a1 a2 h3 (by omega)⟩
/-! ### what is assembled -/
theorem mayN_c {a b c : Nat} (h : mayN 4 a b 0 = true) : mayN 4 a b c = true := by
  unfold mayN at h ⊢; simp at h ⊢; exact h
theorem jump_may : ∀ o, jumpB o = true → ∀ a b c, mayI o a b 0 = true → mayI o a b c = true := by
  intro o h a b c
  unfold jumpB at h; simp at h
  rcases h with rfl | rfl <;> exact fun h => mayN_c h
theorem asm_code {ls : List AL} (hmay : ∀ i, i < ls.length → (ls.getD i al0).may = true) (hok : ∀ i, i < ls.length → (ls.getD i al0).ok) (hl : ls.length ≤ 16384) :
    ((asmS ls).2.2 = 101 ∨ (asmS ls).2.2 = 0 ∧ (asmS ls).1.length = ls.length ∧ (∀ i, i < (asmS ls).1.length → ((asmS ls).1.getD i noIns).ok ∧ ((asmS ls).1.getD i noIns).may = true)) := by
  have hn : first (mayL ls) ls.length = none := first_none fun i hi => by unfold mayL; rw [hmay i hi]; rfl
  unfold asmS
  rw [if_neg (by omega), hn]
  show (match first (badL ls) ls.length with | some i => ([], i, 101) | none => ((List.range ls.length).map (insT ls), 0, 0) : List Ins × Nat × Nat).2.2 = 101 ∨ _
  cases hb : first (badL ls) ls.length with
  | some i => left; rfl
  | none =>
    right
    refine ⟨rfl, by simp, fun i hi => ?_⟩
    have hi2 : i < ls.length := by simpa using hi
    have hg : ((List.range ls.length).map (insT ls)).getD i noIns = insT ls i := by
      rw [List.getD_eq_getElem?_getD, List.getElem?_eq_getElem (by simpa using hi2)]; simp
    show (((List.range ls.length).map (insT ls)).getD i noIns).ok ∧ (((List.range ls.length).map (insT ls)).getD i noIns).may = true
    rw [hg]
    have hm := hmay i hi2
    have hk := (hok i hi2).i
    unfold insT
    by_cases he : (ls.getD i al0).tgt.toList.isEmpty = true
    · rw [if_pos he]; exact ⟨hk, may_ins hm⟩
    · rw [if_neg he]
      have ht := (may_tgt hm).resolve_left he
      have hc : (findO ls (ls.getD i al0).tgt).getD 0 < 4294967296 := by
        cases hf : findO ls (ls.getD i al0).tgt with
        | none => decide
        | some m =>
          have := (first_lt hf).1
          show m < _; omega
      refine ⟨⟨hk.op, hk.a, hk.b, hc⟩, ?_⟩
      have := may_ins hm
      unfold Ins.may at this ⊢
      rw [ht.2] at this
      exact jump_may _ ht.1.2 _ _ _ this
/-! ### instructions are read from their bytes -/
def byX (ls : List Ins) (j : Nat) : Nat := (ls.getD (j / 8) noIns).byt (j % 8)
theorem bysK_eq (ls : List Ins) : ∀ k, bysK ls k = (List.range (8 * k)).map (bV (byX ls))
  | 0 => rfl
  | k + 1 => by
    rw [bysK_succ, bysK_eq ls k, Nat.mul_succ, List.range_add, List.map_append, List.map_map]
    congr 1
    unfold Ins.bytL
    apply List.map_congr_left
    intro j hj
    have hj8 := List.mem_range.1 hj
    show bV _ j = bV _ (8 * k + j)
    unfold bV byX
    rw [show (8 * k + j) / 8 = k by omega, show (8 * k + j) % 8 = j by omega]
theorem byX_lt {ls : List Ins} (h : ∀ i, i < ls.length → (ls.getD i noIns).ok) (j : Nat) : byX ls j < 256 := by
  unfold byX
  apply byt_lt
  by_cases hj : j / 8 < ls.length
  · exact h _ hj
  · rw [List.getD_eq_getElem?_getD, List.getElem?_eq_none (by omega)]
    exact ⟨by decide, by decide, by decide, by decide⟩
theorem rd_back {ls : List Ins} (h : ∀ i, i < ls.length → (ls.getD i noIns).ok ∧ (ls.getD i noIns).may = true) (hl : ls.length ≤ 16384) : rdS (8 * ls.length) (byX ls) = (ls, 0, 0) := by
  have hc : ∀ k, k < ls.length → rdI (byX ls) k = ls.getD k noIns := fun k hk => by
    unfold rdI
    have : chunk (byX ls) k = catX (ls.getD k noIns).byt (fun j => byX ls (8 * k + 8 + j)) := by
      funext j
      unfold chunk catX
      by_cases hj : j < 8
      · rw [if_pos hj]; unfold byX
        rw [show (8 * k + j) / 8 = k by omega, show (8 * k + j) % 8 = j by omega]
      · rw [if_neg hj]; congr 1; omega
    rw [this, insOf_byt (h k hk).1]
  have hn : first (rdBad (byX ls)) ls.length = none := first_none fun k hk => by unfold rdBad; rw [hc k hk, (h k hk).2]; rfl
  unfold rdS
  rw [if_neg (by omega), if_neg (by omega), show 8 * ls.length / 8 = ls.length by omega, hn]
  show (rdL (byX ls) ls.length, 0, 0) = _
  congr 1
  unfold rdL
  conv => rhs; rw [← range_getD noIns ls]
  apply List.map_congr_left
  intro k hk
  exact hc k (List.mem_range.1 hk)
end Go.Proofs.YtalmgjeiopjhlaaGreatDoor
