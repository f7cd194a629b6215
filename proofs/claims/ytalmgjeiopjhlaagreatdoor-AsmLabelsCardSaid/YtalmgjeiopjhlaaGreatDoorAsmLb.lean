/- Plain: other labels make no difference; nor do remarks and blanks. -/
import Derived.Test.YtalmgjeiopjhlaaGreatDoorAsmBl
import Derived.Lib.Replace
namespace Go.Proofs.YtalmgjeiopjhlaaGreatDoor
set_option linter.unusedVariables false
set_option linter.unusedSimpArgs false
set_option maxRecDepth 100000
def uS : ByteArray := ⟨#[95]⟩
def renB (s : ByteArray) : ByteArray := if s.toList.isEmpty then s else s ++ uS
def ren (x : AL) : AL := ⟨renB x.lab, x.i, renB x.tgt⟩
theorem app_data (s t : ByteArray) : (s ++ t).data.toList = s.data.toList ++ t.data.toList := by simp [data_app]
theorem renB_data (s : ByteArray) : (renB s).data.toList = if s.data.toList = [] then [] else s.data.toList ++ [95] := by
  unfold renB
  by_cases h : s.toList.isEmpty = true
  · rw [if_pos h, if_pos (empty_list.1 h), empty_list.1 h]
  · rw [if_neg h, if_neg (fun e => h (empty_list.2 e)), app_data]; rfl
theorem isEmpty_data (s : ByteArray) : s.toList.isEmpty = decide (s.data.toList = []) := by
  by_cases h : s.data.toList = []
  · rw [empty_list.2 h, decide_eq_true h]
  · rw [decide_eq_false h]; exact Bool.eq_false_iff.2 fun e => h (empty_list.1 e)
theorem renB_empty (s : ByteArray) : (renB s).toList.isEmpty = s.toList.isEmpty := by
  rw [isEmpty_data, isEmpty_data, renB_data]
  by_cases h : s.data.toList = []
  · rw [if_pos h, decide_eq_true h]; rfl
  · rw [if_neg h, decide_eq_false h]; simp
theorem renB_same (s t : ByteArray) : ((renB s).toList == (renB t).toList) = (s.toList == t.toList) := by
  rw [str_eq, str_eq, renB_data, renB_data]
  apply decide_eq_decide.2
  by_cases hs : s.data.toList = [] <;> by_cases ht : t.data.toList = []
  · rw [if_pos hs, if_pos ht, hs, ht]
  · rw [if_pos hs, if_neg ht, hs]; constructor
    · intro e; simp at e
    · intro e; exact absurd e.symm ht
  · rw [if_neg hs, if_pos ht, ht]; constructor
    · intro e; simp at e
    · intro e; exact absurd e hs
  · rw [if_neg hs, if_neg ht]; exact ⟨fun e => List.append_cancel_right e, fun e => by rw [e]⟩
theorem lab_more {s : ByteArray} (h : labelB s = true) (hs : s.size ≤ 15) : labelB (s ++ uS) = true := by
  unfold labelB at h ⊢
  rw [app_data]
  rw [← size_list] at hs
  cases hl : s.data.toList with
  | nil => rw [hl] at h; cases h
  | cons b r =>
    rw [hl] at h hs
    rw [labL_cons, Bool.and_eq_true, Bool.and_eq_true] at h
    rw [List.cons_append, labL_cons, h.1.2, List.all_append, h.2]
    rw [decide_eq_true (by rw [List.length_append]; simp at hs; show r.length + 1 ≤ 15; omega)]; rfl
theorem renB_lab {s : ByteArray} (h : s.toList.isEmpty = true ∨ labelB s = true) (hs : s.size ≤ 15) : (renB s).toList.isEmpty = true ∨ labelB (renB s) = true := by
  unfold renB
  by_cases he : s.toList.isEmpty = true
  · rw [if_pos he]; exact .inl he
  · rw [if_neg he]; exact .inr (lab_more (h.resolve_left he) hs)
theorem renB_size (s : ByteArray) : (renB s).size ≤ s.size + 1 := by
  rw [← size_list, ← size_list, renB_data]; split <;> simp
theorem ren_may {x : AL} (h : x.may = true) (h1 : x.lab.size ≤ 15) (h2 : x.tgt.size ≤ 15) : (ren x).may = true := by
  have a1 := renB_lab (may_lab h) h1
  have a3 := may_tgt h
  unfold AL.may
  show (((renB x.lab).toList.isEmpty || labelB (renB x.lab)) && x.i.may && ((renB x.tgt).toList.isEmpty || labelB (renB x.tgt) && jumpB x.i.op && decide (x.i.c = 0))) = true
  rw [may_ins h]
  rw [show ((renB x.lab).toList.isEmpty || labelB (renB x.lab)) = true by rw [Bool.or_eq_true]; exact a1]
  rw [renB_empty]
  by_cases he : x.tgt.toList.isEmpty = true
  · rw [he]; rfl
  · obtain ⟨⟨hl, hj⟩, hc⟩ := a3.resolve_left he
    have : labelB (renB x.tgt) = true := by unfold renB; rw [if_neg he]; exact lab_more hl h2
    rw [this, hj, decide_eq_true hc]; simp
theorem ren_ok {x : AL} (h : x.ok) (h1 : x.lab.size ≤ 15) (h2 : x.tgt.size ≤ 15) : (ren x).ok :=
  ⟨h.i, by have := renB_size x.lab; show (renB x.lab).size ≤ _; omega, by have := renB_size x.tgt; show (renB x.tgt).size ≤ _; omega⟩
theorem ren_al0 : ren al0 = al0 := by
  have : renB (⟨#[]⟩ : ByteArray) = ⟨#[]⟩ := by unfold renB; rw [if_pos (empty_list.2 rfl)]
  unfold ren al0; simp only [this]
theorem ren_get (ls : List AL) (i : Nat) : (ls.map ren).getD i al0 = ren (ls.getD i al0) := by
  rw [List.getD_eq_getElem?_getD, List.getD_eq_getElem?_getD, List.getElem?_map]
  cases ls[i]? with
  | none => exact ren_al0.symm
  | some x => rfl
theorem ren_hit (ls : List AL) (s : ByteArray) : hitL (ls.map ren) (renB s) = hitL ls s := by
  funext i
  unfold hitL
  rw [ren_get]; exact renB_same _ _
theorem ren_find (ls : List AL) (s : ByteArray) : findO (ls.map ren) (renB s) = findO ls s := by
  unfold findO; rw [ren_hit, List.length_map]
theorem ren_asm {ls : List AL} (hmay : ∀ i, i < ls.length → (ls.getD i al0).may = true) (h1 : ∀ i, i < ls.length → (ls.getD i al0).lab.size ≤ 15) (h2 : ∀ i, i < ls.length → (ls.getD i al0).tgt.size ≤ 15) : asmS (ls.map ren) = asmS ls := by
  have n1 : first (mayL ls) ls.length = none := first_none fun i hi => by unfold mayL; rw [hmay i hi]; rfl
  have n2 : first (mayL (ls.map ren)) ls.length = none := first_none fun i hi => by unfold mayL; rw [ren_get, ren_may (hmay i hi) (h1 i hi) (h2 i hi)]; rfl
  have n3 : badL (ls.map ren) = badL ls := by
    funext i
    unfold badL
    rw [ren_get]
    show ((!(renB (ls.getD i al0).lab).toList.isEmpty && !(findO (ls.map ren) (renB (ls.getD i al0).lab) == some i)) || (!(renB (ls.getD i al0).tgt).toList.isEmpty && !(findO (ls.map ren) (renB (ls.getD i al0).tgt)).isSome)) = _
    rw [renB_empty, renB_empty, ren_find, ren_find]
  have n4 : insT (ls.map ren) = insT ls := by
    funext i
    unfold insT
    rw [ren_get]
    show (if (renB (ls.getD i al0).tgt).toList.isEmpty then (ls.getD i al0).i else ⟨(ls.getD i al0).i.op, (ls.getD i al0).i.a, (ls.getD i al0).i.b, (findO (ls.map ren) (renB (ls.getD i al0).tgt)).getD 0⟩) = _
    rw [renB_empty, ren_find]
  unfold asmS
  rw [List.length_map, n1, n2, n3, n4]
/-! ### remarks and blanks -/
def repL (c : UInt8) (new : List UInt8) (l : List UInt8) : List UInt8 := l.flatMap fun b => if b = c then new else [b]
theorem repL_app (c : UInt8) (new a b : List UInt8) : repL c new (a ++ b) = repL c new a ++ repL c new b := by unfold repL; rw [List.flatMap_append]
theorem repL_hit (c : UInt8) (new r : List UInt8) : repL c new (c :: r) = new ++ repL c new r := by unfold repL; rw [List.flatMap_cons, if_pos rfl]
theorem repL_none (c : UInt8) (new : List UInt8) : ∀ {l : List UInt8}, c ∉ l → repL c new l = l
  | [], _ => rfl
  | b :: r, h => by
    rw [List.mem_cons, not_or] at h
    unfold repL
    rw [List.flatMap_cons, if_neg (fun e => h.1 e.symm)]
    show b :: repL c new r = _
    rw [repL_none c new h.2]
theorem replaceK_rep (c : UInt8) (new : List UInt8) : ∀ (n : Nat) (s : List UInt8), s.length ≤ n → Lib.replaceK [c] new (Lib.count s [c]) s = repL c new s
  | n, s, hn => by
    rcases index_cases s c with ⟨h1, h2⟩ | ⟨p, r, h1, h2, h3⟩
    · rw [Lib.count_miss h1, repL_none c new h2]; rfl
    · rw [Lib.count_hit (by simp) h3, Nat.add_comm, Lib.replaceK_hit _ _ _ _ _ h3]
      have e1 : s.take p.length = p := by rw [h1]; simp
      have e3 : s.drop (p.length + [c].length) = r := by rw [h1]; simp
      rw [e1, e3, h1, repL_app, repL_none c new h2, repL_hit, ← List.append_assoc]
      cases n with
      | zero => rw [h1] at hn; simp at hn
      | succ n => rw [replaceK_rep c new n r (by rw [h1] at hn; simp at hn; omega)]
theorem replaceAll_rep (c : UInt8) (new s : List UInt8) (h : [c] ≠ new) : Lib.replaceAll s [c] new = repL c new s := by
  unfold Lib.replaceAll Lib.replace Lib.replaceNum
  rw [if_neg (by simpa using h), if_pos (.inl (by decide))]
  exact replaceK_rep c new _ s (Nat.le_refl _)
def joinD : List (List UInt8) → List UInt8
  | [] => []
  | [q] => q
  | q :: r => q ++ 32 :: 32 :: joinD r
theorem joinD_cons (q : List UInt8) (r : List (List UInt8)) (h : r ≠ []) : joinD (q :: r) = q ++ 32 :: 32 :: joinD r := by
  cases r with
  | nil => exact absurd rfl h
  | cons x t => rfl
theorem rep_join : ∀ (ws : List (List UInt8)), (∀ q ∈ ws, clean q) → repL 32 [32, 32] (joinW ws) = joinD ws
  | [], _ => rfl
  | [q], h => repL_none 32 _ (h q (by simp)).no32
  | q :: x :: t, h => by
    rw [joinW_cons q (x :: t) (by simp), joinD_cons q (x :: t) (by simp), repL_app, repL_none 32 _ (h q (by simp)).no32, repL_hit, rep_join (x :: t) (fun y hy => h y (List.mem_cons_of_mem _ hy))]; rfl
theorem joinD_clean : ∀ (ws : List (List UInt8)), (∀ q ∈ ws, clean q) → 59 ∉ joinD ws ∧ 10 ∉ joinD ws
  | [], _ => ⟨by simp [joinD], by simp [joinD]⟩
  | [q], h => ⟨(h q (by simp)).no59, (h q (by simp)).no10⟩
  | q :: x :: t, h => by
    have ih := joinD_clean (x :: t) (fun y hy => h y (List.mem_cons_of_mem _ hy))
    have hq := h q (by simp)
    rw [joinD_cons q (x :: t) (by simp)]
    constructor <;> intro hm <;> rcases List.mem_append.1 hm with hm | hm
    · exact hq.no59 hm
    · rcases List.mem_cons.1 hm with hm | hm
      · exact absurd hm (by decide)
      · rcases List.mem_cons.1 hm with hm | hm
        · exact absurd hm (by decide)
        · exact ih.1 hm
    · exact hq.no10 hm
    · rcases List.mem_cons.1 hm with hm | hm
      · exact absurd hm (by decide)
      · rcases List.mem_cons.1 hm with hm | hm
        · exact absurd hm (by decide)
        · exact ih.2 hm
theorem words_joinD : ∀ (ws : List (List UInt8)), (∀ q ∈ ws, clean q ∧ q ≠ []) → wordsG [] (joinD ws ++ [32]) = ws
  | [], _ => by decide
  | [q], h => by
    show wordsG [] (q ++ 32 :: []) = _
    rw [words_next (h q (by simp)).1 (h q (by simp)).2]; rfl
  | q :: x :: t, h => by
    rw [joinD_cons q (x :: t) (by simp), List.append_assoc]
    show wordsG [] (q ++ 32 :: (32 :: (joinD (x :: t) ++ [32]))) = _
    rw [words_next (h q (by simp)).1 (h q (by simp)).2]
    rw [wordsG, if_pos rfl, words_joinD (x :: t) (fun y hy => h y (List.mem_cons_of_mem _ hy))]; rfl
theorem joinD_len : ∀ (ws : List (List UInt8)), (joinD ws).length ≤ sumW ws + ws.length
  | [] => Nat.le_refl _
  | [q] => by show q.length ≤ q.length + 1 + 0 + 1; omega
  | q :: x :: t => by
    have := joinD_len (x :: t)
    rw [joinD_cons q (x :: t) (by simp), sumW_cons, List.length_append, List.length_cons, List.length_cons, List.length_cons]; omega
theorem wordsX_four (x : AL) : (wordsX x).length ≤ 4 := by
  have h1 : (labW x).length ≤ 1 := by unfold labW; split <;> simp
  have h2 : (bodW x).length ≤ 3 := by
    unfold bodW
    repeat' split
    all_goals simp
  unfold wordsX
  rw [List.length_append]; omega
def remA : List UInt8 := [32, 59, 32, 97, 58, 32, 114, 101, 109, 97, 114, 107]
def remR : List UInt8 := remA ++ 10 :: ([59] ++ 10 :: ([32] ++ 10 :: []))
def lineD (x : AL) : List UInt8 := joinD (wordsX x)
theorem rep_lin {x : AL} (h : x.may = true) : repL 10 remR (repL 32 [32, 32] (linL x)) = lineD x ++ remR := by
  have hc := fun q hq => (words_ok h q hq).1
  unfold linL
  rw [line_join h, repL_app, rep_join _ hc, repL_none 32 _ (show (32 : UInt8) ∉ [10] by decide), repL_app, repL_none 10 _ (joinD_clean _ hc).2, repL_hit]
  show lineD x ++ (remR ++ []) = _
  rw [List.append_nil]
theorem rep_text : ∀ (ls : List AL), (∀ x ∈ ls, x.may = true) → repL 10 remR (repL 32 [32, 32] (ls.flatMap linL)) = ls.flatMap fun x => lineD x ++ remR
  | [], _ => rfl
  | x :: ls, h => by
    rw [List.flatMap_cons, List.flatMap_cons, repL_app, repL_app, rep_lin (h x (by simp)), rep_text ls (fun y hy => h y (List.mem_cons_of_mem _ hy))]
theorem part_rem {x : AL} (h : x.may = true) (r : List UInt8) : partL 10 (lineD x ++ remR ++ r) = (lineD x ++ remA) :: [59] :: [32] :: partL 10 r := by
  have hc := joinD_clean (wordsX x) (fun q hq => (words_ok h q hq).1)
  have e : lineD x ++ remR ++ r = (lineD x ++ remA) ++ 10 :: ([59] ++ 10 :: ([32] ++ 10 :: r)) := by unfold remR; simp
  have h1 : 10 ∉ lineD x ++ remA := fun hm => (List.mem_append.1 hm).elim hc.2 (by decide)
  rw [e, partL_front 10 _ h1, partL_front 10 [59] (by decide), partL_front 10 [32] (by decide)]
theorem part_remarks : ∀ (ls : List AL), (∀ x ∈ ls, x.may = true) → partL 10 (ls.flatMap fun x => lineD x ++ remR) = (ls.flatMap fun x => [lineD x ++ remA, [59], [32]]) ++ [[]]
  | [], _ => rfl
  | x :: ls, h => by
    rw [List.flatMap_cons, List.flatMap_cons, part_rem (h x (by simp)), part_remarks ls (fun y hy => h y (List.mem_cons_of_mem _ hy))]; rfl
theorem words_rem {x : AL} (h : x.may = true) : wordsL (lineD x ++ remA) = wordsX x := by
  have hc := joinD_clean (wordsX x) (fun q hq => (words_ok h q hq).1)
  unfold wordsL
  have e : lineD x ++ remA = (lineD x ++ [32]) ++ 59 :: [32, 97, 58, 32, 114, 101, 109, 97, 114, 107] := by unfold remA; simp
  have h1 : 59 ∉ lineD x ++ [32] := fun hm => (List.mem_append.1 hm).elim hc.1 (by decide)
  rw [e, ahead_front 59 h1]
  exact words_joinD _ (words_ok h)
theorem parse_remarks : ∀ (ls : List AL) (n : Nat) (acc : List AL), (∀ x ∈ ls, x.may = true ∧ x.ok) → acc.length + ls.length ≤ 16384 → parseG n acc ((ls.flatMap fun x => [lineD x ++ remA, [59], [32]]) ++ [[]]) = (acc ++ ls, 0, 0)
  | [], n, acc, _, _ => by
    show parseG n acc [[]] = _
    rw [parseG_blank (by rfl), List.append_nil]; rfl
  | x :: ls, n, acc, h, hl => by
    have hx := h x (by simp)
    have hw := words_rem hx.1
    have hs : lineS (wordsB (lineD x ++ remA)) = (0, x) := by unfold wordsB; rw [hw]; exact line_back hx.1 hx.2
    rw [List.length_cons] at hl
    rw [List.flatMap_cons]
    show parseG n acc ((lineD x ++ remA) :: [59] :: [32] :: ((ls.flatMap fun x => [lineD x ++ remA, [59], [32]]) ++ [[]])) = _
    rw [parseG_line (by rw [hw]; exact wordsX_ne x) (by rw [hs]) (by omega), hs, parseG_blank (by decide), parseG_blank (by decide),
      parse_remarks ls _ (acc ++ [x]) (fun y hy => h y (List.mem_cons_of_mem _ hy)) (by rw [List.length_append]; simp; omega)]
    simp
theorem rem_len {ls : List AL} : (∀ x ∈ ls, x.may = true ∧ x.ok) → (ls.flatMap fun x => lineD x ++ remR).length ≤ 120 * ls.length := by
  induction ls with
  | nil => intro _; exact Nat.le_refl _
  | cons x ls ih =>
    intro h
    have hx := h x (by simp)
    have h1 := (lin_len hx.1 hx.2).2.2
    rw [lin_len_sum hx.1] at h1
    have h2 := joinD_len (wordsX x)
    have h3 := wordsX_four x
    have h4 := ih (fun y hy => h y (List.mem_cons_of_mem _ hy))
    rw [List.flatMap_cons, List.length_append, List.length_append, List.length_cons]
    have : (lineD x).length ≤ 103 := by show (joinD (wordsX x)).length ≤ _; omega
    have : remR.length = 17 := by decide
    omega
/-- Remarks and blanks make no difference to what is parsed. -/
theorem rem_parse {ls : List AL} (hmay : ∀ i, i < ls.length → (ls.getD i al0).may = true) (hok : ∀ i, i < ls.length → (ls.getD i al0).ok) (hl : ls.length ≤ 3000) :
    parseS (repL 10 remR (repL 32 [32, 32] (textS ls).data.toList)) = (ls, 0, 0) := by
  have hall : ∀ x ∈ ls, x.may = true ∧ x.ok := fun x hx => by
    obtain ⟨i, hi, rfl⟩ := getD_mem (d := al0) hx
    exact ⟨hmay i hi, hok i hi⟩
  have hn : first (mayL ls) ls.length = none := first_none fun i hi => by unfold mayL; rw [hmay i hi]; rfl
  have ht : (textS ls).data.toList = ls.flatMap linL := by
    unfold textS
    rw [hn]
    show (ByteArray.mk (textK ls ls.length).toArray).data.toList = _
    rw [show (ByteArray.mk (textK ls ls.length).toArray).data.toList = textK ls ls.length by simp, textK_flat]
  rw [ht, rep_text ls (fun x hx => (hall x hx).1)]
  unfold parseS
  have := rem_len hall
  rw [if_neg (by omega), part_remarks ls (fun x hx => (hall x hx).1)]
  exact parse_remarks ls 0 [] hall (by simp; omega)
end Go.Proofs.YtalmgjeiopjhlaaGreatDoor
