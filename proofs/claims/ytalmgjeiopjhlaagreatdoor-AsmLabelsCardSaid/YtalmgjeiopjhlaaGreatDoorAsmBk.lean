/- Plain: what is written is parsed as it was; what is parsed is written, and no longer than it was. -/
import Derived.Test.YtalmgjeiopjhlaaGreatDoorAsmTU
import Derived.Test.YtalmgjeiopjhlaaGreatDoorAsmRW
namespace Go.Proofs.YtalmgjeiopjhlaaGreatDoor
set_option linter.unusedVariables false
set_option linter.unusedSimpArgs false
set_option maxRecDepth 100000
/-! ### numbers -/
theorem fold_mono : ∀ (l : List UInt8) (acc : Nat), acc ≤ l.foldl (fun a b => 10 * a + (b.toNat - 48)) acc
  | [], acc => Nat.le_refl _
  | c :: r, acc => Nat.le_trans (by omega) (fold_mono r (10 * acc + (c.toNat - 48)))
theorem numM_dig : ∀ (l : List UInt8) (acc : Nat), l.all isDig = true → l.foldl (fun a b => 10 * a + (b.toNat - 48)) acc ≤ 4294967295 → numM acc l = some (l.foldl (fun a b => 10 * a + (b.toNat - 48)) acc)
  | [], acc, _, _ => rfl
  | c :: r, acc, h, hm => by
    rw [List.all_cons, Bool.and_eq_true] at h
    have hc := h.1
    unfold isDig at hc; simp at hc
    have := fold_mono r (10 * acc + (c.toNat - 48))
    rw [List.foldl_cons] at hm ⊢
    rw [numM, if_pos hc, if_neg (by omega), numM_dig r _ h.2 hm]
theorem numL_dec (n : Nat) (h : n < 4294967296) : numL (Lib.decDigits n) = some n := by
  have hd : (Lib.decDigits n).all isDig = true := List.all_eq_true.2 (dec_dig n)
  have hv := valD_dec n
  obtain ⟨c, r, he, _⟩ := dec_head n
  have key : numM 0 (Lib.decDigits n) = some n := by
    have := numM_dig (Lib.decDigits n) 0 hd (by show valD _ ≤ _; rw [hv]; omega)
    rw [this]; show some (valD _) = _; rw [hv]
  rw [he] at key ⊢
  show (if c.toNat = 48 ∧ r ≠ [] then none else numM 0 (c :: r)) = some n
  rw [if_neg, key]
  rintro ⟨h1, h2⟩
  by_cases hn : 10 ≤ n
  · obtain ⟨c', r', he', hc', _⟩ := head_dec n hn
    rw [he] at he'
    exact hc' (by rw [← (List.cons.inj he').1]; exact h1)
  · rw [Lib.decDigits, dif_pos (by omega)] at he
    exact h2 (List.cons.inj he).2.symm
theorem numL_inv {l : List UInt8} {n : Nat} (h : numL l = some n) : Lib.decDigits n = l ∧ n < 4294967296 := ⟨((num_iff l n).2 h).2, by have := numL_le h; omega⟩
/-! ### words without blanks -/
def clean (l : List UInt8) : Prop := ∀ b ∈ l, b ≠ 32 ∧ b ≠ 59 ∧ b ≠ 10
theorem clean.app {l r : List UInt8} (h : clean l) (k : clean r) : clean (l ++ r) := fun b hb => (List.mem_append.1 hb).elim (h b) (k b)
theorem clean_let {l : List UInt8} (h : ∀ b ∈ l, isLet b = true) : clean l := fun b hb => by
  have := h b hb
  unfold isLet at this; simp at this
  refine ⟨?_, ?_, ?_⟩ <;> (rintro rfl; revert this; decide)
theorem clean_dig {l : List UInt8} (h : ∀ b ∈ l, isDig b = true) : clean l := fun b hb => by
  have := h b hb
  unfold isDig at this; simp at this
  refine ⟨?_, ?_, ?_⟩ <;> (rintro rfl; revert this; decide)
theorem clean_lab {l : List UInt8} (h : ∀ b ∈ l, isLab b = true) : clean l := fun b hb => by
  have := h b hb
  refine ⟨?_, ?_, ?_⟩ <;> (rintro rfl; revert this; decide)
theorem clean_58 : clean [58] := fun b hb => by simp at hb; subst hb; decide
theorem clean.no32 {l : List UInt8} (h : clean l) : 32 ∉ l := fun hm => (h 32 hm).1 rfl
theorem clean.no59 {l : List UInt8} (h : clean l) : 59 ∉ l := fun hm => (h 59 hm).2.1 rfl
theorem clean.no10 {l : List UInt8} (h : clean l) : 10 ∉ l := fun hm => (h 10 hm).2.2 rfl
theorem labL_all {l : List UInt8} (h : labL l = true) : l ≠ [] ∧ l.length ≤ 16 ∧ ∀ b ∈ l, isLab b = true := by
  cases l with
  | nil => cases h
  | cons b r =>
    rw [labL_cons, Bool.and_eq_true, Bool.and_eq_true, decide_eq_true_eq] at h
    refine ⟨by simp, by rw [List.length_cons]; omega, fun x hx => ?_⟩
    rcases List.mem_cons.1 hx with rfl | hx
    · unfold isLab; rw [h.1.2]; rfl
    · exact List.all_eq_true.1 h.2 x hx
theorem words_last {q : List UInt8} (h : clean q) (hq : q ≠ []) : wordsG [] q = [q] := by
  have := wordsG_many q h.no32 [] []
  rw [List.append_nil, List.nil_append] at this
  rw [this]; unfold wordsG flushL; rw [if_neg hq]
theorem words_next {q : List UInt8} (h : clean q) (hq : q ≠ []) (r : List UInt8) : wordsG [] (q ++ 32 :: r) = q :: wordsG [] r := by
  rw [wordsG_many q h.no32 [] (32 :: r), List.nil_append, wordsG, if_pos rfl]
  unfold flushL; rw [if_neg hq]
/-- Words with one blank between them. -/
def joinW : List (List UInt8) → List UInt8
  | [] => []
  | [q] => q
  | q :: r => q ++ 32 :: joinW r
theorem joinW_cons (q : List UInt8) (r : List (List UInt8)) (h : r ≠ []) : joinW (q :: r) = q ++ 32 :: joinW r := by
  cases r with
  | nil => exact absurd rfl h
  | cons x t => rfl
theorem words_join : ∀ (ws : List (List UInt8)), (∀ q ∈ ws, clean q ∧ q ≠ []) → wordsG [] (joinW ws) = ws
  | [], _ => rfl
  | [q], h => words_last (h q (by simp)).1 (h q (by simp)).2
  | q :: x :: t, h => by
    rw [joinW_cons q (x :: t) (by simp), words_next (h q (by simp)).1 (h q (by simp)).2, words_join (x :: t) (fun y hy => h y (List.mem_cons_of_mem _ hy))]
def sumW (ws : List (List UInt8)) : Nat := (ws.map fun q => q.length + 1).sum
theorem sumW_cons (q : List UInt8) (r : List (List UInt8)) : sumW (q :: r) = q.length + 1 + sumW r := rfl
theorem join_len : ∀ (ws : List (List UInt8)), ws ≠ [] → (joinW ws).length + 1 = sumW ws
  | [], h => absurd rfl h
  | [q], _ => rfl
  | q :: x :: t, _ => by
    have := join_len (x :: t) (by simp)
    rw [joinW_cons q (x :: t) (by simp), sumW_cons, ← this, List.length_append, List.length_cons]; omega
theorem join_clean : ∀ (ws : List (List UInt8)), (∀ q ∈ ws, clean q) → 59 ∉ joinW ws ∧ 10 ∉ joinW ws
  | [], _ => ⟨by simp [joinW], by simp [joinW]⟩
  | [q], h => ⟨(h q (by simp)).no59, (h q (by simp)).no10⟩
  | q :: x :: t, h => by
    have ih := join_clean (x :: t) (fun y hy => h y (List.mem_cons_of_mem _ hy))
    have hq := h q (by simp)
    rw [joinW_cons q (x :: t) (by simp)]
    constructor
    · intro hm
      rcases List.mem_append.1 hm with hm | hm
      · exact hq.no59 hm
      · rcases List.mem_cons.1 hm with hm | hm
        · exact absurd hm (by decide)
        · exact ih.1 hm
    · intro hm
      rcases List.mem_append.1 hm with hm | hm
      · exact hq.no10 hm
      · rcases List.mem_cons.1 hm with hm | hm
        · exact absurd hm (by decide)
        · exact ih.2 hm
theorem sumG : ∀ (l cur : List UInt8), sumW (wordsG cur l) ≤ cur.length + l.length + 1
  | [], cur => by
    unfold wordsG flushL
    by_cases h : cur = []
    · rw [if_pos h]; exact Nat.zero_le _
    · rw [if_neg h]; show cur.length + 1 + 0 ≤ _; simp
  | b :: r, cur => by
    unfold wordsG
    by_cases hb : b = 32
    · rw [if_pos hb]
      have := sumG r []
      unfold flushL
      by_cases h : cur = []
      · rw [if_pos h]; simp at this ⊢; omega
      · rw [if_neg h, sumW_cons]; simp at this ⊢; omega
    · rw [if_neg hb]
      have := sumG r (cur ++ [b])
      simp at this ⊢; omega
theorem sumL (l : List UInt8) : sumW (wordsL l) ≤ l.length + 1 := by
  have := sumG (aheadL 59 l) []
  have := aheadL_len 59 l
  unfold wordsL
  simp at *; omega
/-! ### a line's words -/
def labW (x : AL) : List (List UInt8) := if x.lab.toList.isEmpty then [] else [x.lab.data.toList ++ [58]]
def bodW (x : AL) : List (List UInt8) :=
  if x.tgt.toList.isEmpty then
    (if (rowAt x.i.op).nm = 0 then [(rowAt x.i.op).name] else if (rowAt x.i.op).nm = 1 then [(rowAt x.i.op).name, Lib.decDigits x.i.a] else if (rowAt x.i.op).nm = 3 then [(rowAt x.i.op).name, Lib.decDigits x.i.a, Lib.decDigits x.i.b] else if (rowAt x.i.op).nm = 4 then [(rowAt x.i.op).name, Lib.decDigits x.i.c] else [(rowAt x.i.op).name ++ Lib.decDigits x.i.a, Lib.decDigits x.i.c])
  else [(rowAt x.i.op).name, x.tgt.data.toList]
def wordsX (x : AL) : List (List UInt8) := labW x ++ bodW x
theorem empty_list {s : ByteArray} : s.toList.isEmpty = true ↔ s.data.toList = [] := by rw [ByteArray.toList_eq, List.isEmpty_iff]
theorem dec_ne (n : Nat) : Lib.decDigits n ≠ [] := by
  obtain ⟨c, r, he, _⟩ := dec_head n
  rw [he]; simp
theorem bodW_ne (x : AL) : bodW x ≠ [] := by
  unfold bodW
  repeat' split
  all_goals simp
theorem words_ok {x : AL} (h : x.may = true) : ∀ q ∈ wordsX x, clean q ∧ q ≠ [] := by
  obtain ⟨hn, _, _, _⟩ := may_row (may_ins h)
  have cn : clean (rowAt x.i.op).name := clean_let (name_let _)
  have cd : ∀ n, clean (Lib.decDigits n) := fun n => clean_dig (dec_dig n)
  intro q hq
  unfold wordsX at hq
  rcases List.mem_append.1 hq with hq | hq
  · unfold labW at hq
    by_cases he : x.lab.toList.isEmpty = true
    · rw [if_pos he] at hq; cases hq
    · rw [if_neg he] at hq
      simp at hq; subst hq
      have := (may_lab h).resolve_left he
      exact ⟨(clean_lab (labL_all this).2.2).app clean_58, by simp⟩
  · unfold bodW at hq
    by_cases he : x.tgt.toList.isEmpty = true
    · rw [if_pos he] at hq
      have fin : ∀ y, y ∈ [(rowAt x.i.op).name, Lib.decDigits x.i.a, Lib.decDigits x.i.b, Lib.decDigits x.i.c, (rowAt x.i.op).name ++ Lib.decDigits x.i.a] → clean y ∧ y ≠ [] := by
        intro y hy
        simp at hy
        rcases hy with rfl | rfl | rfl | rfl | rfl
        · exact ⟨cn, hn⟩
        · exact ⟨cd _, dec_ne _⟩
        · exact ⟨cd _, dec_ne _⟩
        · exact ⟨cd _, dec_ne _⟩
        · exact ⟨cn.app (cd _), by simp [hn]⟩
      apply fin
      revert hq
      repeat' split
      all_goals (intro hq; simp at hq ⊢; first | (subst hq; simp; done) | (rcases hq with rfl | rfl <;> simp; done) | (rcases hq with rfl | rfl | rfl <;> simp; done))
    · rw [if_neg he] at hq
      have ht := ((may_tgt h).resolve_left he).1.1
      simp at hq
      rcases hq with rfl | rfl
      · exact ⟨cn, hn⟩
      · exact ⟨clean_lab (labL_all ht).2.2, (labL_all ht).1⟩
theorem jump_nm {o : Nat} (h : jumpB o = true) : (rowAt o).nm = 4 ∧ o < 28 := by
  unfold jumpB at h; simp at h
  rcases h with rfl | rfl <;> decide
theorem dec_zero : Lib.decDigits 0 = [48] := by rw [Lib.decDigits, dif_pos (by decide)]; rfl
/-- A line is its words with one blank between them. -/
theorem line_join {x : AL} (h : x.may = true) : labP x ++ bodP x = joinW (wordsX x) := by
  have hb : bodP x = joinW (bodW x) := by
    unfold bodP bodW
    obtain ⟨_, _, _, hnm⟩ := may_row (may_ins h)
    by_cases he : x.tgt.toList.isEmpty = true
    · rw [if_pos he, if_pos he, text_list (may_ins h)]
      unfold tailL
      rcases hnm with e | e | e | e | e <;> rw [e] <;> simp [joinW]
    · rw [if_neg he, if_neg he, text_list (may_ins h)]
      have hj := ((may_tgt h).resolve_left he).1.2
      have hc : x.i.c = 0 := ((may_tgt h).resolve_left he).2
      rw [(jump_nm hj).1, hc]
      show Lib.trimSuffix ((rowAt x.i.op).name ++ (32 :: Lib.decDigits 0)) [48] ++ _ = _
      rw [dec_zero]
      have : Lib.trimSuffix ((rowAt x.i.op).name ++ [32, 48]) [48] = (rowAt x.i.op).name ++ [32] := by
        rw [show (rowAt x.i.op).name ++ [32, 48] = ((rowAt x.i.op).name ++ [32]) ++ [48] by simp]
        unfold Lib.trimSuffix Lib.hasSuffix
        rw [if_pos (by rw [List.isSuffixOf_iff_suffix]; exact ⟨(rowAt x.i.op).name ++ [32], rfl⟩)]
        rw [List.length_append, List.length_singleton, Nat.add_sub_cancel, List.take_left']
        rfl
      rw [this]; simp [joinW]
  rw [hb]
  unfold wordsX labW labP
  by_cases he : x.lab.toList.isEmpty = true
  · rw [if_pos he, if_pos he]; rfl
  · rw [if_neg he, if_neg he]
    show _ = joinW ((x.lab.data.toList ++ [58]) :: bodW x)
    rw [joinW_cons _ _ (bodW_ne x)]; simp
theorem wordsX_ne (x : AL) : wordsX x ≠ [] := by
  unfold wordsX
  intro e
  exact bodW_ne x (List.append_eq_nil_iff.1 e).2
theorem line_words_of {x : AL} (h : x.may = true) : wordsL (labP x ++ bodP x) = wordsX x ∧ 10 ∉ labP x ++ bodP x := by
  have hw := words_ok h
  have hc := join_clean (wordsX x) (fun q hq => (hw q hq).1)
  rw [line_join h]
  refine ⟨?_, hc.2⟩
  unfold wordsL
  rw [ahead_all 59 hc.1, words_join _ hw]
theorem lin_len_sum {x : AL} (h : x.may = true) : (linL x).length = sumW (wordsX x) := by
  unfold linL
  rw [line_join h, List.length_append, ← join_len _ (wordsX_ne x)]; rfl
/-! ### what a line's words come to -/
theorem suf_no {l : List UInt8} (h : 58 ∉ l) : Lib.hasSuffix l [58] = false := by
  unfold Lib.hasSuffix
  cases hx : [58].isSuffixOf l with
  | false => rfl
  | true =>
    rw [List.isSuffixOf_iff_suffix] at hx
    obtain ⟨q, hq⟩ := hx
    exact absurd (by rw [← hq]; simp) h
theorem suf_yes (l : List UInt8) : Lib.hasSuffix (l ++ [58]) [58] = true := by
  unfold Lib.hasSuffix
  rw [List.isSuffixOf_iff_suffix]; exact ⟨l, rfl⟩
theorem let58 {l : List UInt8} (h : ∀ b ∈ l, isLet b = true) : 58 ∉ l := fun hm => by have := h 58 hm; revert this; decide
theorem dig58 {l : List UInt8} (h : ∀ b ∈ l, isDig b = true) : 58 ∉ l := fun hm => by have := h 58 hm; revert this; decide
theorem opL_name {o : Nat} (h : o < 28) (hn : (rowAt o).name ≠ []) : opL (rowAt o).name = o := by
  have := opOf_name h hn (nameS o) rfl
  rw [opL_of] at this; exact this
theorem mayN_1a {a b c : Nat} (h : mayN 1 a b c = true) : a < 16 := by unfold mayN at h; simp at h; omega
theorem mayN_3a {a b c : Nat} (h : mayN 3 a b c = true) : a < 16 ∧ b < 16 := by unfold mayN at h; simp at h; omega
theorem mayN_12a {a b c : Nat} (h : mayN 12 a b c = true) : a = 1 ∨ a = 2 ∨ a = 4 := by unfold mayN at h; simp at h; omega
theorem nm0 : ∀ o, o < 28 → (rowAt o).name ≠ [] → (rowAt o).nm = 0 → o ≠ 0 ∧ wordsN o = 0 ∧ o ≠ 17 ∧ o ≠ 18 := by decide
theorem nm1 : ∀ o, o < 28 → (rowAt o).nm = 1 → o = 21 ∨ o = 22 ∨ o = 24 ∨ o = 26 := by decide
theorem nm3 : ∀ o, o < 28 → (rowAt o).nm = 3 → o = 23 ∨ o = 25 := by decide
theorem nm4 : ∀ o, o < 28 → (rowAt o).nm = 4 → o = 1 ∨ o = 19 ∨ o = 20 := by decide
theorem nm12 : ∀ o, o < 28 → (rowAt o).nm = 12 → o = 17 ∨ o = 18 := by decide
theorem opR_name {o : Nat} (h : o < 28) (hn : (rowAt o).name ≠ []) (h0 : o ≠ 0) (h17 : o ≠ 17) (h18 : o ≠ 18) : opR (rowAt o).name = (o, 0) := by
  have e := opL_name h hn
  rw [opR_other (by rw [e]; exact h0) (by rw [e]; exact h17) (by rw [e]; exact h18), e]
theorem lab_dec (n : Nat) : labelB (bytesOf (Lib.decDigits n)) = false := by
  obtain ⟨c, r, he, hc⟩ := dec_head n
  unfold labelB
  rw [bytesOf_data, he, labL_cons]
  rw [show isLet c = false from dig_let hc]; simp
theorem dec_one {a : Nat} (h : a < 10) : Lib.decDigits a = [UInt8.ofNat (48 + a)] := by rw [Lib.decDigits, dif_pos h]
theorem rest_back {x : AL} (lab : ByteArray) (h : x.may = true) (hok : x.ok) : restS lab ((bodW x).map bytesOf) = (0, ⟨lab, x.i, x.tgt⟩) := by
  obtain ⟨hn, ho, hm, hnm⟩ := may_row (may_ins h)
  have hc32 := hok.i.c
  have hx := may_tgt h
  unfold bodW
  obtain ⟨xl, ⟨o, a, b, c⟩, tgt⟩ := x
  simp only at hn ho hm hnm hc32 hx ⊢
  by_cases he : tgt.toList.isEmpty = true
  · rw [if_pos he]
    have ht : tgt = eS := by rw [← bytesOf_of tgt, empty_list.1 he]; rfl
    subst ht
    clear hx
    rcases hnm with e | e | e | e | e
    · rw [e] at hm ⊢
      obtain ⟨rfl, rfl, rfl⟩ := mayN_0 hm
      obtain ⟨h0, hw, h17, h18⟩ := nm0 o ho hn e
      show opS lab (opR (rowAt o).name).1 (opR (rowAt o).name).2 [] = _
      rw [opR_name ho hn h0 h17 h18, opS_0 h0 hw rfl]
    · rw [e] at hm ⊢
      obtain ⟨rfl, rfl⟩ := mayN_1 hm
      have ha := mayN_1a hm
      have h1 := nm1 o ho e
      show opS lab (opR (rowAt o).name).1 (opR (rowAt o).name).2 [bytesOf (Lib.decDigits a)] = _
      rw [opR_name ho hn (by omega) (by omega) (by omega), opS_arg (by omega) (by rcases h1 with rfl | rfl | rfl | rfl <;> decide) (by rcases h1 with rfl | rfl | rfl | rfl <;> rfl)]
      show argS lab o 0 (bytesOf (Lib.decDigits a)) eS = _
      unfold argS
      rw [lab_dec, Bool.and_false, if_neg (by decide), if_neg (by omega), bytesOf_data, numL_dec a (by omega)]
      show (if 15 < a then _ else if wordsN o = 2 then _ else _) = _
      rw [if_neg (by omega), if_neg (by rcases h1 with rfl | rfl | rfl | rfl <;> decide)]
    · rw [e] at hm ⊢
      obtain rfl := mayN_3 hm
      have ha := mayN_3a hm
      have h1 := nm3 o ho e
      show opS lab (opR (rowAt o).name).1 (opR (rowAt o).name).2 [bytesOf (Lib.decDigits a), bytesOf (Lib.decDigits b)] = _
      rw [opR_name ho hn (by omega) (by omega) (by omega), opS_arg (by omega) (by rcases h1 with rfl | rfl <;> decide) (by rcases h1 with rfl | rfl <;> rfl)]
      show argS lab o 0 (bytesOf (Lib.decDigits a)) (bytesOf (Lib.decDigits b)) = _
      unfold argS
      rw [lab_dec, Bool.and_false, if_neg (by decide), if_neg (by omega), bytesOf_data, numL_dec a (by omega), bytesOf_data, numL_dec b (by omega)]
      show (if 15 < a then _ else if wordsN o = 2 then (if 15 < b then _ else _) else _) = _
      rw [if_neg (by omega), if_pos (by rcases h1 with rfl | rfl <;> decide), if_neg (by omega)]
    · rw [e] at hm ⊢
      obtain ⟨rfl, rfl⟩ := mayN_4 hm
      have h1 := nm4 o ho e
      show opS lab (opR (rowAt o).name).1 (opR (rowAt o).name).2 [bytesOf (Lib.decDigits c)] = _
      rw [opR_name ho hn (by omega) (by omega) (by omega), opS_arg (by omega) (by rcases h1 with rfl | rfl | rfl <;> decide) (by rcases h1 with rfl | rfl | rfl <;> rfl)]
      show argS lab o 0 (bytesOf (Lib.decDigits c)) eS = _
      unfold argS
      rw [lab_dec, Bool.and_false, if_neg (by decide), if_pos (by omega), bytesOf_data, numL_dec c hc32]
    · rw [e] at hm ⊢
      obtain rfl := mayN_12 hm
      have ha := mayN_12a hm
      have h1 := nm12 o ho e
      show opS lab (opR ((rowAt o).name ++ Lib.decDigits a)).1 (opR ((rowAt o).name ++ Lib.decDigits a)).2 [bytesOf (Lib.decDigits c)] = _
      have hr : opR ((rowAt o).name ++ Lib.decDigits a) = (o, a) := by
        rw [dec_one (by omega), opR_sized (by rw [opL_name ho hn]; exact h1) (by rcases ha with rfl | rfl | rfl <;> decide), opL_name ho hn]
        rcases ha with rfl | rfl | rfl <;> rfl
      rw [hr]
      show opS lab o a [bytesOf (Lib.decDigits c)] = _
      rw [opS_arg (by omega) (by rcases h1 with rfl | rfl <;> decide) (by rcases h1 with rfl | rfl <;> rfl)]
      show argS lab o a (bytesOf (Lib.decDigits c)) eS = _
      unfold argS
      rw [lab_dec, Bool.and_false, if_neg (by decide), if_pos (by omega), bytesOf_data, numL_dec c hc32]
  · rw [if_neg he]
    obtain ⟨⟨hlb, hj⟩, rfl⟩ := hx.resolve_left he
    have e := (jump_nm hj).1
    rw [e] at hm
    obtain ⟨rfl, rfl⟩ := mayN_4 hm
    have h1 : o = 19 ∨ o = 20 := by unfold jumpB at hj; simp at hj; exact hj
    show opS lab (opR (rowAt o).name).1 (opR (rowAt o).name).2 [bytesOf tgt.data.toList] = _
    rw [opR_name ho hn (by omega) (by omega) (by omega), opS_arg (by omega) (by rcases h1 with rfl | rfl <;> decide) (by rcases h1 with rfl | rfl <;> rfl), bytesOf_of]
    show argS lab o 0 tgt eS = _
    unfold argS
    rw [hj, hlb]; rfl
theorem body_58 {x : AL} (h : x.may = true) : ∃ n vs, bodW x = n :: vs ∧ 58 ∉ n := by
  obtain ⟨hn, ho, hm, hnm⟩ := may_row (may_ins h)
  have n58 : 58 ∉ (rowAt x.i.op).name := let58 (name_let _)
  have d58 : 58 ∉ (rowAt x.i.op).name ++ Lib.decDigits x.i.a := fun hx => (List.mem_append.1 hx).elim n58 (dig58 (dec_dig _))
  unfold bodW
  repeat' split
  all_goals first | exact ⟨_, _, rfl, n58⟩ | exact ⟨_, _, rfl, d58⟩
theorem line_back {x : AL} (h : x.may = true) (hok : x.ok) : lineS ((wordsX x).map bytesOf) = (0, x) := by
  have hr := rest_back (x := x) x.lab h hok
  unfold wordsX labW
  by_cases he : x.lab.toList.isEmpty = true
  · rw [if_pos he]
    have hl : x.lab = eS := by rw [← bytesOf_of x.lab, empty_list.1 he]; rfl
    obtain ⟨n, vs, hb, h58⟩ := body_58 h
    rw [List.nil_append]
    rw [hl] at hr
    unfold lineS
    have hc : colonB (((bodW x).map bytesOf).getD 0 eS) = false := by
      rw [hb]
      show Lib.hasSuffix (bytesOf n).data.toList [58] = false
      rw [bytesOf_data]; exact suf_no h58
    rw [hc, if_neg (by decide), hr]
    rw [← hl]
  · rw [if_neg he]
    have hlb := (may_lab h).resolve_left he
    show lineS (bytesOf (x.lab.data.toList ++ [58]) :: (bodW x).map bytesOf) = _
    unfold lineS
    have hc : colonB (bytesOf (x.lab.data.toList ++ [58])) = true := by
      show Lib.hasSuffix (bytesOf _).data.toList [58] = true
      rw [bytesOf_data]; exact suf_yes _
    have hs : stripB (bytesOf (x.lab.data.toList ++ [58])) = x.lab := by
      unfold stripB Lib.trimSuffix
      rw [bytesOf_data, if_pos (suf_yes _), List.length_append, List.length_singleton, Nat.add_sub_cancel, List.take_left' rfl]
    show (if colonB (bytesOf (x.lab.data.toList ++ [58])) then (if labelB (stripB (bytesOf (x.lab.data.toList ++ [58]))) then restS (stripB (bytesOf (x.lab.data.toList ++ [58]))) ((bodW x).map bytesOf) else (101, al0)) else _) = _
    rw [hc, if_pos rfl, hs, hlb, if_pos rfl, hr]
/-! ### a text's lines -/
def lineB (x : AL) : List UInt8 := labP x ++ bodP x
theorem part_text : ∀ (ls : List AL), (∀ x ∈ ls, x.may = true) → partL 10 (ls.flatMap linL) = ls.map lineB ++ [[]]
  | [], _ => rfl
  | x :: ls, h => by
    rw [List.flatMap_cons]
    have e : linL x ++ ls.flatMap linL = lineB x ++ 10 :: ls.flatMap linL := by unfold linL lineB; simp
    rw [e, partL_front 10 (lineB x) (line_words_of (h x (by simp))).2, part_text ls (fun y hy => h y (List.mem_cons_of_mem _ hy))]; rfl
theorem parse_lines : ∀ (ls : List AL) (n : Nat) (acc : List AL), (∀ x ∈ ls, x.may = true ∧ x.ok) → acc.length + ls.length ≤ 16384 → parseG n acc (ls.map lineB ++ [[]]) = (acc ++ ls, 0, 0)
  | [], n, acc, _, _ => by
    show parseG n acc [[]] = _
    rw [parseG_blank (by rfl), List.append_nil]; rfl
  | x :: ls, n, acc, h, hl => by
    have hx := h x (by simp)
    have hw : wordsL (lineB x) = wordsX x := (line_words_of hx.1).1
    have hs : lineS (wordsB (lineB x)) = (0, x) := by unfold wordsB; rw [hw]; exact line_back hx.1 hx.2
    rw [List.length_cons] at hl
    rw [List.map_cons, List.cons_append, parseG_line (by rw [hw]; exact wordsX_ne x) (by rw [hs]) (by omega), hs,
      parse_lines ls (n + 1) (acc ++ [x]) (fun y hy => h y (List.mem_cons_of_mem _ hy)) (by rw [List.length_append]; simp; omega)]
    simp
theorem range_getD {α : Type} (d : α) : ∀ (ls : List α), (List.range ls.length).map (fun i => ls.getD i d) = ls
  | [] => rfl
  | x :: ls => by
    rw [List.length_cons, List.range_succ_eq_map, List.map_cons, List.map_map]
    congr 1
    exact range_getD d ls
theorem textK_flat (ls : List AL) : textK ls ls.length = ls.flatMap linL := by
  unfold textK
  conv => rhs; rw [← range_getD al0 ls]
  rw [List.flatMap_map]
theorem getD_mem {α : Type} {d : α} {ls : List α} {x : α} (h : x ∈ ls) : ∃ i, i < ls.length ∧ ls.getD i d = x := by
  obtain ⟨i, hi, rfl⟩ := List.mem_iff_getElem.1 h
  exact ⟨i, hi, by rw [List.getD_eq_getElem?_getD, List.getElem?_eq_getElem hi]; rfl⟩
/-- What a program is written as is parsed as it was. -/
theorem back1 {ls : List AL} (hmay : ∀ i, i < ls.length → (ls.getD i al0).may = true) (hok : ∀ i, i < ls.length → (ls.getD i al0).ok) (hl : ls.length ≤ 16384) (ht : (textK ls ls.length).length ≤ 524288) : parseS (textS ls).data.toList = (ls, 0, 0) := by
  have hall : ∀ x ∈ ls, x.may = true ∧ x.ok := fun x hx => by
    obtain ⟨i, hi, rfl⟩ := getD_mem (d := al0) hx
    exact ⟨hmay i hi, hok i hi⟩
  have hn : first (mayL ls) ls.length = none := first_none fun i hi => by unfold mayL; rw [hmay i hi]; rfl
  unfold textS
  rw [hn]
  show parseS (ByteArray.mk (textK ls ls.length).toArray).data.toList = _
  rw [show (ByteArray.mk (textK ls ls.length).toArray).data.toList = textK ls ls.length by simp]
  unfold parseS
  rw [if_neg (by omega), textK_flat, part_text ls (fun x hx => (hall x hx).1)]
  exact parse_lines ls 0 [] hall (by simpa using hl)
end Go.Proofs.YtalmgjeiopjhlaaGreatDoor
