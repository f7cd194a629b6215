/- Plain: lines that a program writes: their text, that they may be, and what they are assembled to, if no label is laid twice. -/
import Derived.Test.YtdlpgoackmgdkaaGreatDoorZAsmB
import Derived.Test.YtdlpgoackmgdkaaGreatDoorMaPR
namespace Go.Proofs.YtdlpgoackmgdkaaGreatDoor
set_option linter.unusedVariables false
set_option linter.unusedSimpArgs false
/-- An instruction; a jump to a label, if what is on the stack is 0 (20), or anyhow (19). -/
def aI (lab : List UInt8) (op a b c : Nat) : AL := ⟨bytesOf lab, ⟨op, a, b, c⟩, bytesOf []⟩
def aJ (lab : List UInt8) (op : Nat) (tgt : List UInt8) : AL := ⟨bytesOf lab, ⟨op, 0, 0, 0⟩, bytesOf tgt⟩
theorem bytes_empty (l : List UInt8) : (bytesOf l).toList.isEmpty = decide (l = []) := by
  rw [ByteArray.toList_eq, bytesOf_data]; cases l <;> rfl
theorem bytes_inj {a b : List UInt8} (h : bytesOf a = bytesOf b) : a = b := by rw [← bytesOf_data a, h, bytesOf_data]
def labT (lab : List UInt8) : List UInt8 := if lab = [] then [] else lab ++ [58, 32]
theorem labP_of {lab : List UInt8} {x : AL} (h : x.lab = bytesOf lab) : labP x = labT lab := by
  unfold labP labT
  rw [h, bytes_empty, bytesOf_data]
  by_cases e : lab = []
  · rw [if_pos (decide_eq_true e), if_pos e]
  · rw [if_neg (by simp [e]), if_neg e]
theorem lin_I {lab : List UInt8} {op a b c : Nat} (h : mayI op a b c = true) : linL (aI lab op a b c) = labT lab ++ (rowAt op).name ++ tailL (rowAt op).nm a b c ++ [10] := by
  have ht := text_list (i := ⟨op, a, b, c⟩) h
  unfold linL
  rw [labP_of (lab := lab) rfl]
  unfold bodP
  rw [if_pos (show (aI lab op a b c).tgt.toList.isEmpty = true from empty_list.2 rfl), show (aI lab op a b c).i.text.data.toList = _ from ht, ← List.append_assoc]
theorem lin_J {lab tgt : List UInt8} {op : Nat} (h : op = 19 ∨ op = 20) (ht : tgt ≠ []) : linL (aJ lab op tgt) = labT lab ++ (rowAt op).name ++ (32 :: tgt) ++ [10] := by
  have hm : mayI op 0 0 0 = true := by rcases h with rfl | rfl <;> decide
  have hx := text_list (i := ⟨op, 0, 0, 0⟩) hm
  have hn : (rowAt op).nm = 4 := by rcases h with rfl | rfl <;> rfl
  unfold linL
  rw [labP_of (lab := lab) rfl]
  unfold bodP
  have he : ¬ (aJ lab op tgt).tgt.toList.isEmpty = true := by
    show ¬ (bytesOf tgt).toList.isEmpty = true
    rw [bytes_empty]; simp [ht]
  rw [if_neg he, show (aJ lab op tgt).i.text.data.toList = _ from hx]
  show labT lab ++ (Lib.trimSuffix ((rowAt op).name ++ tailL (rowAt op).nm 0 0 0) [48] ++ (bytesOf tgt).data.toList) ++ [10] = _
  rw [hn, bytesOf_data]
  show labT lab ++ (Lib.trimSuffix ((rowAt op).name ++ (32 :: Lib.decDigits 0)) [48] ++ tgt) ++ [10] = _
  rw [dec_zero]
  have : Lib.trimSuffix ((rowAt op).name ++ [32, 48]) [48] = (rowAt op).name ++ [32] := by
    rw [show (rowAt op).name ++ [32, 48] = ((rowAt op).name ++ [32]) ++ [48] by simp]
    unfold Lib.trimSuffix Lib.hasSuffix
    rw [if_pos (by rw [List.isSuffixOf_iff_suffix]; exact ⟨(rowAt op).name ++ [32], rfl⟩)]
    rw [List.length_append, List.length_singleton, Nat.add_sub_cancel, List.take_left']
    rfl
  rw [this]; simp
/-- A label of a letter and digits. -/
theorem dig_lab {b : UInt8} (h : isDig b = true) : isLab b = true := by unfold isLab; simp [h]
theorem lab_nd (c : UInt8) (hc : isLet c = true) (k : Nat) (h : (Lib.decDigits k).length ≤ 15) : labL (c :: Lib.decDigits k) = true := by
  rw [labL_cons, hc, Bool.and_true, Bool.and_eq_true]
  refine ⟨decide_eq_true (by omega), List.all_eq_true.2 fun b hb => dig_lab (dec_dig k b hb)⟩
theorem labelB_of (l : List UInt8) : labelB (bytesOf l) = labL l := by unfold labelB; rw [bytesOf_data]
theorem may_I {lab : List UInt8} {op a b c : Nat} (hl : lab = [] ∨ labL lab = true) (h : mayI op a b c = true) : (aI lab op a b c).may = true := by
  unfold AL.may
  rw [show (aI lab op a b c).i.may = true from h]
  rw [show (aI lab op a b c).tgt.toList.isEmpty = true from empty_list.2 rfl, show (aI lab op a b c).lab = bytesOf lab from rfl, bytes_empty, labelB_of]
  rcases hl with e | e
  · simp [e]
  · simp [e]
theorem may_J {lab tgt : List UInt8} {op : Nat} (h : op = 19 ∨ op = 20) (hl : lab = [] ∨ labL lab = true) (ht : labL tgt = true) : (aJ lab op tgt).may = true := by
  have hm : mayI op 0 0 0 = true := by rcases h with rfl | rfl <;> decide
  have hj : jumpB op = true := by rcases h with rfl | rfl <;> rfl
  unfold AL.may
  rw [show (aJ lab op tgt).i.may = true from hm]
  rw [show (aJ lab op tgt).tgt = bytesOf tgt from rfl, show (aJ lab op tgt).lab = bytesOf lab from rfl, show (aJ lab op tgt).i.op = op from rfl, show (aJ lab op tgt).i.c = 0 from rfl, bytes_empty, labelB_of, labelB_of, ht, hj]
  rcases hl with e | e
  · simp [e]
  · simp [e]
theorem bytes_size (l : List UInt8) : (bytesOf l).size = l.length := by simp [bytesOf, ByteArray.size]
theorem ok_I {lab : List UInt8} {op a b c : Nat} (hl : lab.length ≤ 16) (h : op < 256 ∧ a < 256 ∧ b < 65536 ∧ c < 4294967296) : (aI lab op a b c).ok :=
  ⟨⟨h.1, h.2.1, h.2.2.1, h.2.2.2⟩, by show (bytesOf lab).size ≤ _; rw [bytes_size]; omega, by show (bytesOf []).size ≤ _; rw [bytes_size]; simp⟩
theorem ok_J {lab tgt : List UInt8} {op : Nat} (hl : lab.length ≤ 16) (ht : tgt.length ≤ 16) (h : op < 256) : (aJ lab op tgt).ok :=
  ⟨⟨h, by show 0 < _; omega, by show 0 < _; omega, by show 0 < _; omega⟩, by show (bytesOf lab).size ≤ _; rw [bytes_size]; omega, by show (bytesOf tgt).size ≤ _; rw [bytes_size]; omega⟩
/-- Lines of text are parsed as they were. -/
theorem parse_all {ls : List AL} (hall : ∀ x ∈ ls, x.may = true ∧ x.ok) (hl : ls.length ≤ 16384) (ht : (ls.flatMap linL).length ≤ 524288) : parseS (ls.flatMap linL) = (ls, 0, 0) := by
  unfold parseS
  rw [if_neg (by omega), part_text ls (fun x hx => (hall x hx).1)]
  exact parse_lines ls 0 [] hall (by simpa using hl)
/-! ### labels -/
def labs (ls : List AL) : List (List UInt8) := (ls.map fun x => x.lab.data.toList).filter fun l => decide (l ≠ [])
theorem labs_app (a b : List AL) : labs (a ++ b) = labs a ++ labs b := by unfold labs; rw [List.map_append, List.filter_append]
theorem labs_cons (x : AL) (b : List AL) : labs (x :: b) = (if x.lab.data.toList = [] then [] else [x.lab.data.toList]) ++ labs b := by
  unfold labs; rw [List.map_cons]
  by_cases h : x.lab.data.toList = []
  · rw [List.filter_cons_of_neg (by simp [h]), if_pos h]; rfl
  · rw [List.filter_cons_of_pos (by simp [h]), if_neg h]; rfl
theorem mem_labs {ls : List AL} {l : List UInt8} : l ∈ labs ls ↔ l ≠ [] ∧ ∃ x ∈ ls, x.lab.data.toList = l := by
  unfold labs
  rw [List.mem_filter, List.mem_map]
  constructor
  · rintro ⟨⟨x, hx, rfl⟩, h⟩; exact ⟨by simpa using h, x, hx, rfl⟩
  · rintro ⟨h, x, hx, rfl⟩; exact ⟨⟨x, hx, rfl⟩, by simpa using h⟩
theorem getD_app_left {a b : List AL} {i : Nat} (h : i < a.length) : (a ++ b).getD i al0 = a.getD i al0 := by
  rw [List.getD_eq_getElem?_getD, List.getD_eq_getElem?_getD, List.getElem?_append_left h]
theorem getD_app_mid {a b : List AL} {x : AL} : (a ++ x :: b).getD a.length al0 = x := by
  rw [List.getD_eq_getElem?_getD, List.getElem?_append_right (Nat.le_refl _), Nat.sub_self]; rfl
theorem find_at {a b : List AL} {x : AL} (h : x.lab.data.toList ∉ labs a) (h0 : x.lab.data.toList ≠ []) : findO (a ++ x :: b) x.lab = some a.length := by
  unfold findO
  refine first_some (by simp) ?_ fun j hj => ?_
  · unfold hitL; rw [getD_app_mid, str_eq]; exact decide_eq_true rfl
  · unfold hitL; rw [getD_app_left hj, str_eq]
    refine decide_eq_false fun e => h (mem_labs.2 ⟨h0, _, ?_, e⟩)
    rw [List.getD_eq_getElem?_getD, List.getElem?_eq_getElem hj]
    exact List.getElem_mem hj
theorem nodup_mid {a b : List AL} {x : AL} (h : (labs (a ++ x :: b)).Nodup) (h0 : x.lab.data.toList ≠ []) : x.lab.data.toList ∉ labs a := by
  rw [labs_app, labs_cons, if_neg h0] at h
  intro hm
  have := List.nodup_append.1 h
  exact this.2.2 _ hm _ (by simp) rfl
theorem split_at {ls : List AL} {i : Nat} (h : i < ls.length) : ∃ a b, ls = a ++ ls.getD i al0 :: b ∧ a.length = i := by
  refine ⟨ls.take i, ls.drop (i + 1), ?_, by rw [List.length_take]; omega⟩
  rw [List.getD_eq_getElem?_getD, List.getElem?_eq_getElem h]
  simp
def resA (ls : List AL) (x : AL) : Ins := if x.tgt.data.toList = [] then x.i else ⟨x.i.op, x.i.a, x.i.b, (findO ls x.tgt).getD 0⟩
theorem asm_all {ls : List AL} (hall : ∀ x ∈ ls, x.may = true ∧ x.ok) (hl : ls.length ≤ 16384) (hnd : (labs ls).Nodup) (ht : ∀ x ∈ ls, x.tgt.data.toList ≠ [] → x.tgt.data.toList ∈ labs ls) : asmS ls = (ls.map (resA ls), 0, 0) := by
  have hmem : ∀ {i}, i < ls.length → ls.getD i al0 ∈ ls := fun {i} hi => by
    rw [List.getD_eq_getElem?_getD, List.getElem?_eq_getElem hi]; exact List.getElem_mem hi
  have hn : first (mayL ls) ls.length = none := first_none fun i hi => by unfold mayL; rw [(hall _ (hmem hi)).1]; rfl
  have hfind : ∀ l ∈ labs ls, ∃ k, findO ls (bytesOf l) = some k := fun l hl => by
    obtain ⟨h0, x, hx, rfl⟩ := mem_labs.1 hl
    obtain ⟨i, hi, rfl⟩ := getD_mem (d := al0) hx
    obtain ⟨a, b, e, ea⟩ := split_at hi
    rw [bytesOf_of]
    refine ⟨a.length, ?_⟩
    have h1 : (labs (a ++ ls.getD i al0 :: b)).Nodup := by rw [← e]; exact hnd
    have h2 := find_at (b := b) (nodup_mid h1 h0) h0
    rw [← e] at h2; exact h2
  have hb : first (badL ls) ls.length = none := first_none fun i hi => by
    unfold badL
    have h1 : (!(ls.getD i al0).lab.toList.isEmpty && !(findO ls (ls.getD i al0).lab == some i)) = false := by
      by_cases he : (ls.getD i al0).lab.data.toList = []
      · rw [show (ls.getD i al0).lab.toList.isEmpty = true from empty_list.2 he]; rfl
      · obtain ⟨a, b, e, ea⟩ := split_at hi
        have h1 : (labs (a ++ ls.getD i al0 :: b)).Nodup := by rw [← e]; exact hnd
        have h2 := find_at (b := b) (nodup_mid h1 he) he
        rw [← e, ea] at h2
        rw [h2]; simp
    have h2 : (!(ls.getD i al0).tgt.toList.isEmpty && !(findO ls (ls.getD i al0).tgt).isSome) = false := by
      by_cases he : (ls.getD i al0).tgt.data.toList = []
      · rw [show (ls.getD i al0).tgt.toList.isEmpty = true from empty_list.2 he]; rfl
      · obtain ⟨k, hk⟩ := hfind _ (ht _ (hmem hi) he)
        rw [bytesOf_of] at hk
        rw [hk]; simp
    rw [h1, h2]; rfl
  unfold asmS
  rw [if_neg (by omega), hn]
  show (match first (badL ls) ls.length with | some i => ([], i, 101) | none => ((List.range ls.length).map (insT ls), 0, 0) : List Ins × Nat × Nat) = _
  rw [hb]
  show ((List.range ls.length).map (insT ls), 0, 0) = _
  congr 1
  conv => rhs; rw [← range_getD al0 ls]
  rw [List.map_map]
  refine List.map_congr_left fun i hi => ?_
  have hi := List.mem_range.1 hi
  show insT ls i = resA ((List.range ls.length).map fun i => ls.getD i al0) (ls.getD i al0)
  rw [range_getD]
  unfold insT resA
  by_cases he : (ls.getD i al0).tgt.data.toList = []
  · rw [if_pos (empty_list.2 he), if_pos he]
  · rw [if_neg (fun e => he (empty_list.1 e)), if_neg he]
end Go.Proofs.YtdlpgoackmgdkaaGreatDoor
/- Plain: a plan's program: its text, its instructions, what it does in a frame. -/
namespace Go.Proofs.YtdlpgoackmgdkaaGreatDoor
set_option linter.unusedVariables false
set_option linter.unusedSimpArgs false
structure PL where
  fr : Nat
  rt : Int
def PL.ask (x : PL) : Nat := x.rt.toNat + 1
def nL (i : Nat) : List UInt8 := 110 :: Lib.decDigits i
def tailA (base P : Nat) (lab : List UInt8) : List AL := [aI lab 26 P 0 0, aI [] 1 0 0 base, aI [] 1 0 0 base, aI [] 17 4 0 0, aI [] 1 0 0 base, aI [] 17 4 0 0, aI [] 1 0 0 4294967295, aI [] 16 0 0 0, aI [] 5 0 0 0, aI [] 18 4 0 0, aI [] 27 0 0 0]
def linA (base P : Nat) : Nat → List UInt8 → List PL → List AL
  | _, lab, [] => tailA base P lab
  | i, lab, x :: r => aI lab 1 0 0 base :: aI [] 17 4 0 0 :: aI [] 1 0 0 x.fr :: aI [] 15 0 0 0 :: aJ [] 20 (nL i) :: aI [] 1 0 0 x.ask :: aI [] 25 P 0 0 :: linA base P (i + 1) (nL i) r
def arsL (base P : Nat) (l : List PL) : List AL := aI [] 1 0 0 0 :: aI [] 25 P 0 0 :: linA base P 0 [] l
/-! ### the text -/
def pushT (n : Nat) : List UInt8 := [112, 117, 115, 104, 32] ++ Lib.decDigits n ++ [10]
def countT (base : Nat) : List UInt8 := pushT base ++ [108, 111, 97, 100, 52, 32, 48, 10]
def bodT (base P i : Nat) (x : PL) : List UInt8 := countT base ++ pushT x.fr ++ [101, 113, 10, 122, 101, 114, 111, 32] ++ nL i ++ [10] ++ (pushT x.ask ++ [112, 117, 116, 32] ++ Lib.decDigits P ++ [32, 48, 10] ++ nL i ++ [58, 32])
def bodsT (base P : Nat) : Nat → List PL → List UInt8
  | _, [] => []
  | i, x :: r => bodT base P i x ++ bodsT base P (i + 1) r
def endT (base P : Nat) : List UInt8 := [115, 101, 110, 100, 32] ++ Lib.decDigits P ++ [10] ++ pushT base ++ (countT base ++ countT base ++ pushT 4294967295 ++ [108, 101, 115, 115, 10, 97, 100, 100, 10, 115, 116, 111, 114, 101, 52, 32, 48, 10, 121, 105, 101, 108, 100, 10])
def begT (P : Nat) : List UInt8 := [112, 117, 115, 104, 32, 48, 10, 112, 117, 116, 32] ++ Lib.decDigits P ++ [32, 48, 10]
theorem nL_ne (i : Nat) : nL i ≠ [] := by simp [nL]
theorem lin_push (lab : List UInt8) (c : Nat) : linL (aI lab 1 0 0 c) = labT lab ++ pushT c := by
  rw [lin_I (by rfl)]; simp [pushT, tailL, show (rowAt 1).name = [112, 117, 115, 104] from rfl, show (rowAt 1).nm = 4 from rfl]
theorem lin_load : linL (aI [] 17 4 0 0) = [108, 111, 97, 100, 52, 32, 48, 10] := by
  rw [lin_I (by rfl)]; rw [show (rowAt 17).nm = 12 from rfl]; simp [tailL, labT, dec_zero, dec_one (show 4 < 10 by decide), show (rowAt 17).name = [108, 111, 97, 100] from rfl]
theorem lin_store : linL (aI [] 18 4 0 0) = [115, 116, 111, 114, 101, 52, 32, 48, 10] := by
  rw [lin_I (by rfl)]; rw [show (rowAt 18).nm = 12 from rfl]; simp [tailL, labT, dec_zero, dec_one (show 4 < 10 by decide), show (rowAt 18).name = [115, 116, 111, 114, 101] from rfl]
theorem lin_0 (lab : List UInt8) {op : Nat} {n : List UInt8} (h : mayI op 0 0 0 = true) (hn : (rowAt op).name = n) (hm : (rowAt op).nm = 0) : linL (aI lab op 0 0 0) = labT lab ++ n ++ [10] := by
  rw [lin_I h, hm, hn]; simp [tailL]
theorem may_port {op P : Nat} (hP : P < 16) (h : (rowAt op).name ≠ []) (hm : (rowAt op).nm = 1 ∨ (rowAt op).nm = 3) {b : Nat} (hb : b < 16) (h1 : (rowAt op).nm = 1 → b = 0) : mayI op P b 0 = true := by
  unfold mayI mayN
  rw [if_neg h]
  rcases hm with e | e
  · rw [e, h1 e]; simp; omega
  · rw [e]; simp; omega
theorem lin_put {P b : Nat} (lab : List UInt8) (hP : P < 16) (hb : b < 16) : linL (aI lab 25 P b 0) = labT lab ++ [112, 117, 116, 32] ++ Lib.decDigits P ++ [32] ++ Lib.decDigits b ++ [10] := by
  rw [lin_I (may_port hP (by decide) (.inr rfl) hb (by intro h; exact absurd h (by decide)))]
  rw [show (rowAt 25).nm = 3 from rfl, show (rowAt 25).name = [112, 117, 116] from rfl]; simp [tailL]
theorem lin_send {P : Nat} (lab : List UInt8) (hP : P < 16) : linL (aI lab 26 P 0 0) = labT lab ++ [115, 101, 110, 100, 32] ++ Lib.decDigits P ++ [10] := by
  rw [lin_I (may_port hP (by decide) (.inl rfl) (by decide) (fun _ => rfl))]
  rw [show (rowAt 26).nm = 1 from rfl, show (rowAt 26).name = [115, 101, 110, 100] from rfl]; simp [tailL]
theorem lin_zero {tgt : List UInt8} (lab : List UInt8) (ht : tgt ≠ []) : linL (aJ lab 20 tgt) = labT lab ++ [122, 101, 114, 111, 32] ++ tgt ++ [10] := by
  rw [lin_J (.inr rfl) ht, show (rowAt 20).name = [122, 101, 114, 111] from rfl]; simp
theorem tail_text {base P : Nat} (hP : P < 16) (lab : List UInt8) : (tailA base P lab).flatMap linL = labT lab ++ endT base P := by
  unfold tailA endT countT
  simp only [List.flatMap_cons, List.flatMap_nil, lin_push, lin_load, lin_store, lin_send _ hP, lin_0 [] (op := 16) (n := [108, 101, 115, 115]) (by rfl) rfl rfl, lin_0 [] (op := 5) (n := [97, 100, 100]) (by rfl) rfl rfl, lin_0 [] (op := 27) (n := [121, 105, 101, 108, 100]) (by rfl) rfl rfl]
  simp [labT]
theorem linA_text {base P : Nat} (hP : P < 16) : ∀ (l : List PL) (i : Nat) (lab : List UInt8), (linA base P i lab l).flatMap linL = labT lab ++ bodsT base P i l ++ endT base P
  | [], i, lab => by rw [linA, tail_text hP]; simp [bodsT]
  | x :: r, i, lab => by
    rw [linA]
    simp only [List.flatMap_cons, linA_text hP r (i + 1) (nL i), lin_push, lin_load, lin_put _ hP (show 0 < 16 by decide), lin_zero _ (nL_ne i), lin_0 [] (op := 15) (n := [101, 113]) (by rfl) rfl rfl]
    rw [bodsT]
    unfold bodT countT
    simp [labT, nL_ne, dec_zero]
theorem ars_text {base P : Nat} (hP : P < 16) (l : List PL) : (arsL base P l).flatMap linL = begT P ++ bodsT base P 0 l ++ endT base P := by
  unfold arsL
  simp only [List.flatMap_cons, linA_text hP, lin_push, lin_put _ hP (show 0 < 16 by decide)]
  simp [labT, begT, pushT, dec_zero]
theorem bodsT_snoc (base P : Nat) : ∀ (l : List PL) (i : Nat) (x : PL), bodsT base P i (l ++ [x]) = bodsT base P i l ++ bodT base P (i + l.length) x
  | [], i, x => by simp [bodsT]
  | y :: r, i, x => by
    rw [List.cons_append, bodsT, bodsT, bodsT_snoc base P r (i + 1) x, List.append_assoc, List.length_cons, show i + (r.length + 1) = i + 1 + r.length by omega]
/-! ### they may be -/
structure PlanOk (base P : Nat) (l : List PL) : Prop where
  base : base ≤ 4294967292
  port : P < 16
  len : l.length ≤ 500
  lines : ∀ x ∈ l, x.fr < 4294967295 ∧ 0 ≤ x.rt ∧ x.rt ≤ 65534
theorem nL_lab {i : Nat} (h : i < 1000) : labL (nL i) = true := lab_nd 110 (by decide) i (by
  have : (Lib.decDigits i).length ≤ 3 := by
    have key : ∀ i, i < 1000 → (Lib.decDigits i).length ≤ 3 := by
      intro i hi
      rw [Lib.decDigits]
      split
      · simp
      · rw [Lib.decDigits]
        split
        · simp
        · rw [Lib.decDigits, dif_pos (by omega)]; simp
    exact key i h
  omega)
theorem nL_inj {i j : Nat} (h : nL i = nL j) : i = j := dec_inj (List.cons.inj h).2
def labOk (lab : List UInt8) : Prop := (lab = [] ∨ labL lab = true) ∧ lab.length ≤ 16
theorem nL_ok {i : Nat} (h : i < 1000) : labOk (nL i) := ⟨.inr (nL_lab h), (labL_all (nL_lab h)).2.1⟩
theorem no_ok : labOk [] := ⟨.inl rfl, by simp⟩
theorem I_ok {lab : List UInt8} {op a b c : Nat} (hl : labOk lab) (h : mayI op a b c = true) (h2 : op < 256 ∧ a < 256 ∧ b < 65536 ∧ c < 4294967296) : (aI lab op a b c).may = true ∧ (aI lab op a b c).ok := ⟨may_I hl.1 h, ok_I hl.2 h2⟩
theorem push_may (c : Nat) : mayI 1 0 0 c = true := by unfold mayI mayN; simp [show (rowAt 1).nm = 4 from rfl]; decide
theorem linA_ok {base P : Nat} (hb : base < 4294967296) (hP : P < 16) : ∀ (l : List PL) (i : Nat) (lab : List UInt8), labOk lab → i + l.length ≤ 1000 → (∀ x ∈ l, x.fr < 4294967296 ∧ x.rt ≤ 65534) → ∀ y ∈ linA base P i lab l, y.may = true ∧ y.ok
  | [], i, lab, hl, _, _, y, hy => by
    have s := I_ok hl (may_port (op := 26) hP (by decide) (.inl rfl) (b := 0) (by decide) (fun _ => rfl)) ⟨by decide, by omega, by decide, by decide⟩
    have p := I_ok no_ok (push_may base) ⟨by decide, by decide, by decide, hb⟩
    rw [linA] at hy
    simp only [tailA, List.mem_cons, List.mem_nil_iff, or_false] at hy
    rcases hy with rfl | rfl | rfl | rfl | rfl | rfl | rfl | rfl | rfl | rfl | rfl
    · exact s
    · exact p
    · exact p
    · exact I_ok no_ok (by rfl) (by decide)
    · exact p
    · exact I_ok no_ok (by rfl) (by decide)
    · exact I_ok no_ok (push_may _) (by decide)
    · exact I_ok no_ok (by rfl) (by decide)
    · exact I_ok no_ok (by rfl) (by decide)
    · exact I_ok no_ok (by rfl) (by decide)
    · exact I_ok no_ok (by rfl) (by decide)
  | x :: r, i, lab, hl, hi, hx, y, hy => by
    rw [List.length_cons] at hi
    have hn := nL_ok (i := i) (by omega)
    rw [linA] at hy
    simp only [List.mem_cons] at hy
    rcases hy with rfl | rfl | rfl | rfl | rfl | rfl | rfl | hy
    · exact I_ok hl (push_may base) ⟨by decide, by decide, by decide, hb⟩
    · exact I_ok no_ok (by rfl) (by decide)
    · exact I_ok no_ok (push_may _) ⟨by decide, by decide, by decide, (hx x (by simp)).1⟩
    · exact I_ok no_ok (by rfl) (by decide)
    · exact ⟨may_J (.inr rfl) (.inl rfl) (nL_lab (by omega)), ok_J (by simp) hn.2 (by decide)⟩
    · exact I_ok no_ok (push_may _) ⟨by decide, by decide, by decide, by have := (hx x (by simp)).2; unfold PL.ask; omega⟩
    · exact I_ok no_ok (may_port (op := 25) hP (by decide) (.inr rfl) (b := 0) (by decide) (fun h => absurd h (by decide))) ⟨by decide, by omega, by decide, by decide⟩
    · exact linA_ok hb hP r (i + 1) (nL i) hn (by omega) (fun z hz => hx z (List.mem_cons_of_mem _ hz)) y hy
theorem ars_ok {base P : Nat} {l : List PL} (h : PlanOk base P l) : ∀ y ∈ arsL base P l, y.may = true ∧ y.ok := by
  intro y hy
  have := h.base; have := h.len; have hP := h.port
  unfold arsL at hy
  simp only [List.mem_cons] at hy
  rcases hy with rfl | rfl | hy
  · exact I_ok no_ok (push_may _) (by decide)
  · exact I_ok no_ok (may_port (op := 25) hP (by decide) (.inr rfl) (b := 0) (by decide) (fun h => absurd h (by decide))) ⟨by decide, by omega, by decide, by decide⟩
  · exact linA_ok (by omega) hP l 0 [] no_ok (by omega) (fun x hx => ⟨by have := (h.lines x hx).1; omega, (h.lines x hx).2.2⟩) y hy
theorem linA_len (base P : Nat) : ∀ (l : List PL) (i : Nat) (lab : List UInt8), (linA base P i lab l).length = 7 * l.length + 11
  | [], i, lab => rfl
  | x :: r, i, lab => by rw [linA]; simp only [List.length_cons, linA_len base P r]; omega
theorem ars_len (base P : Nat) (l : List PL) : (arsL base P l).length = 7 * l.length + 13 := by
  unfold arsL; simp only [List.length_cons, linA_len]
theorem flatM_len {f : AL → List UInt8} {m : Nat} : ∀ (ls : List AL), (∀ x ∈ ls, (f x).length ≤ m) → (ls.flatMap f).length ≤ m * ls.length
  | [], _ => by simp
  | x :: r, h => by
    have := flatM_len r (fun y hy => h y (List.mem_cons_of_mem _ hy))
    have := h x (by simp)
    rw [List.flatMap_cons, List.length_append, List.length_cons, Nat.mul_succ]; omega
theorem ars_parse {base P : Nat} {l : List PL} (h : PlanOk base P l) : parseS ((arsL base P l).flatMap linL) = (arsL base P l, 0, 0) := by
  have := h.len
  refine parse_all (ars_ok h) (by rw [ars_len]; omega) ?_
  have := flatM_len (f := linL) (m := 99) (arsL base P l) (fun x hx => (lin_len (ars_ok h x hx).1 (ars_ok h x hx).2).2.2)
  rw [ars_len] at this; omega
/-! ### the instructions -/
def tailC (base P : Nat) : List Ins := [⟨26, P, 0, 0⟩, ⟨1, 0, 0, base⟩, ⟨1, 0, 0, base⟩, ⟨17, 4, 0, 0⟩, ⟨1, 0, 0, base⟩, ⟨17, 4, 0, 0⟩, ⟨1, 0, 0, 4294967295⟩, ⟨16, 0, 0, 0⟩, ⟨5, 0, 0, 0⟩, ⟨18, 4, 0, 0⟩, ⟨27, 0, 0, 0⟩]
def linC (base P : Nat) : Nat → List PL → List Ins
  | _, [] => tailC base P
  | k, x :: r => ⟨1, 0, 0, base⟩ :: ⟨17, 4, 0, 0⟩ :: ⟨1, 0, 0, x.fr⟩ :: ⟨15, 0, 0, 0⟩ :: ⟨20, 0, 0, k + 7⟩ :: ⟨1, 0, 0, x.ask⟩ :: ⟨25, P, 0, 0⟩ :: linC base P (k + 7) r
def arsC (base P : Nat) (l : List PL) : List Ins := ⟨1, 0, 0, 0⟩ :: ⟨25, P, 0, 0⟩ :: linC base P 2 l
theorem labs_I (lab : List UInt8) (op a b c : Nat) (r : List AL) : labs (aI lab op a b c :: r) = (if lab = [] then [] else [lab]) ++ labs r := by
  rw [labs_cons]; show (if (bytesOf lab).data.toList = [] then [] else [(bytesOf lab).data.toList]) ++ _ = _; rw [bytesOf_data]
theorem labs_J (lab tgt : List UInt8) (op : Nat) (r : List AL) : labs (aJ lab op tgt :: r) = (if lab = [] then [] else [lab]) ++ labs r := by
  rw [labs_cons]; show (if (bytesOf lab).data.toList = [] then [] else [(bytesOf lab).data.toList]) ++ _ = _; rw [bytesOf_data]
theorem linA_labs (base P : Nat) : ∀ (l : List PL) (i : Nat) (lab : List UInt8), labs (linA base P i lab l) = (if lab = [] then [] else [lab]) ++ (List.range' i l.length).map nL
  | [], i, lab => by
    rw [linA, tailA]
    simp only [labs_I]
    simp [labs]
  | x :: r, i, lab => by
    rw [linA]
    simp only [labs_I, labs_J, linA_labs base P r (i + 1) (nL i)]
    simp [nL_ne, List.range'_succ]
theorem ars_labs (base P : Nat) (l : List PL) : labs (arsL base P l) = (List.range' 0 l.length).map nL := by
  unfold arsL; simp only [labs_I, linA_labs]; simp
theorem ars_nodup (base P : Nat) (l : List PL) : (labs (arsL base P l)).Nodup := by
  rw [ars_labs, List.nodup_iff_pairwise_ne, List.pairwise_map]
  exact List.Pairwise.imp (fun h e => h (nL_inj e)) (List.nodup_iff_pairwise_ne.1 List.nodup_range')
theorem linA_tgt (base P : Nat) : ∀ (l : List PL) (i : Nat) (lab : List UInt8), ∀ y ∈ linA base P i lab l, y.tgt.data.toList ≠ [] → ∃ j, i ≤ j ∧ j < i + l.length ∧ y.tgt.data.toList = nL j
  | [], i, lab, y, hy, h => by
    rw [linA, tailA] at hy
    simp only [List.mem_cons, List.mem_nil_iff, or_false] at hy
    rcases hy with rfl | rfl | rfl | rfl | rfl | rfl | rfl | rfl | rfl | rfl | rfl <;> exact absurd rfl h
  | x :: r, i, lab, y, hy, h => by
    rw [linA] at hy
    simp only [List.mem_cons] at hy
    rcases hy with rfl | rfl | rfl | rfl | rfl | rfl | rfl | hy
    · exact absurd rfl h
    · exact absurd rfl h
    · exact absurd rfl h
    · exact absurd rfl h
    · exact ⟨i, Nat.le_refl _, by rw [List.length_cons]; omega, bytesOf_data _⟩
    · exact absurd rfl h
    · exact absurd rfl h
    · obtain ⟨j, h1, h2, h3⟩ := linA_tgt base P r (i + 1) (nL i) y hy h
      exact ⟨j, by omega, by rw [List.length_cons]; omega, h3⟩
theorem resA_I (full : List AL) (lab : List UInt8) (op a b c : Nat) : resA full (aI lab op a b c) = ⟨op, a, b, c⟩ := by
  unfold resA; rw [if_pos (show (aI lab op a b c).tgt.data.toList = [] from bytesOf_data [])]; rfl
theorem resA_J {full a b : List AL} {x : AL} {lab tgt : List UInt8} {op : Nat} (ht : tgt ≠ []) (hf : full = a ++ x :: b) (hx : x.lab = bytesOf tgt) (hnd : (labs full).Nodup) : resA full (aJ lab op tgt) = ⟨op, 0, 0, a.length⟩ := by
  unfold resA
  have h0 : x.lab.data.toList ≠ [] := by rw [hx, bytesOf_data]; exact ht
  rw [if_neg (by show ¬ (bytesOf tgt).data.toList = []; rw [bytesOf_data]; exact ht)]
  have := find_at (b := b) (nodup_mid (by rw [← hf]; exact hnd) h0) h0
  rw [← hf, hx] at this
  show (⟨op, 0, 0, (findO full (bytesOf tgt)).getD 0⟩ : Ins) = _
  rw [this]; rfl
theorem linA_head (base P : Nat) (l : List PL) (i : Nat) (lab : List UInt8) : ∃ x t, linA base P i lab l = x :: t ∧ x.lab = bytesOf lab := by
  cases l with
  | nil => exact ⟨_, _, rfl, rfl⟩
  | cons x r => exact ⟨_, _, rfl, rfl⟩
theorem linA_code {base P : Nat} {full : List AL} (hnd : (labs full).Nodup) : ∀ (l : List PL) (i : Nat) (lab : List UInt8) (pre : List AL), full = pre ++ linA base P i lab l → (linA base P i lab l).map (resA full) = linC base P pre.length l
  | [], i, lab, pre, hf => by
    rw [linA, linC, tailA, tailC]
    simp only [List.map_cons, resA_I, List.map_nil]
  | x :: r, i, lab, pre, hf => by
    obtain ⟨y, t, he, hy⟩ := linA_head base P r (i + 1) (nL i)
    have hf2 : full = (pre ++ [aI lab 1 0 0 base, aI [] 17 4 0 0, aI [] 1 0 0 x.fr, aI [] 15 0 0 0, aJ [] 20 (nL i), aI [] 1 0 0 x.ask, aI [] 25 P 0 0]) ++ linA base P (i + 1) (nL i) r := by
      rw [hf, linA]; simp
    have ih := linA_code hnd r (i + 1) (nL i) _ hf2
    have hf3 := hf2
    rw [he] at hf3
    have hj := resA_J (lab := []) (op := 20) (nL_ne i) hf3 hy hnd
    rw [linA, linC]
    simp only [List.map_cons, resA_I, hj, ih]
    simp
theorem ars_asm {base P : Nat} {l : List PL} (h : PlanOk base P l) : asmS (arsL base P l) = (arsC base P l, 0, 0) := by
  have hlen := h.len
  rw [asm_all (ars_ok h) (by rw [ars_len]; omega) (ars_nodup base P l) ?_]
  · congr 1
    have hf : arsL base P l = [aI [] 1 0 0 0, aI [] 25 P 0 0] ++ linA base P 0 [] l := rfl
    have := linA_code (ars_nodup base P l) l 0 [] _ hf
    unfold arsC
    conv => lhs; rw [show arsL base P l = aI [] 1 0 0 0 :: aI [] 25 P 0 0 :: linA base P 0 [] l from rfl]
    rw [List.map_cons, List.map_cons]
    rw [show (aI [] 1 0 0 0 :: aI [] 25 P 0 0 :: linA base P 0 [] l) = arsL base P l from rfl, this, resA_I, resA_I]; rfl
  · intro x hx ht
    rw [ars_labs]
    unfold arsL at hx
    simp only [List.mem_cons] at hx
    rcases hx with rfl | rfl | hx
    · exact absurd rfl ht
    · exact absurd rfl ht
    · obtain ⟨j, h1, h2, h3⟩ := linA_tgt base P l 0 [] x hx ht
      rw [h3]
      exact List.mem_map.2 ⟨j, by rw [List.mem_range']; exact ⟨j, by omega, by omega⟩, rfl⟩
theorem linC_len (base P : Nat) : ∀ (l : List PL) (k : Nat), (linC base P k l).length = 7 * l.length + 11
  | [], k => rfl
  | x :: r, k => by rw [linC]; simp only [List.length_cons, linC_len base P r]; omega
theorem arsC_len (base P : Nat) (l : List PL) : (arsC base P l).length = 7 * l.length + 13 := by
  unfold arsC; simp only [List.length_cons, linC_len]
/-! ### what it does -/
def sentF (n : Nat) : Nat → List PL → Nat
  | acc, [] => acc
  | acc, x :: r => sentF n (if x.fr = n then x.ask else acc) r
def moreN (n : Nat) : Nat := if n = 4294967295 then n else n + 1
def arsE (P n x : Nat) (S : MS) : MS := { S with stack := [], puts := upd S.puts (P * 16) x, sent := upd S.sent P (S.sent P + 1), data := putD S.data 0 (moreN n) }
theorem linC_run {code : List Ins} {base P n : Nat} (hb : base ≤ 4294967292) (hP : P < 16) (hn : n < 4294967296) : ∀ (l : List PL) (k acc : Nat) (S : MS), code.drop k = linC base P k l → S.base = base → S.dn = 4 → S.stack = [] → wordD S.data 0 = n → S.puts (P * 16) = acc →
    Run code k S (arsE P n (sentF n acc l) S)
  | [], k, acc, S, hk, h1, h2, h3, h4, h5 => by
    rw [linC, tailC] at hk
    refine Run.one hk (ex_send hP (by decide)) (by show S.stack.length ≤ 16; rw [h3]; decide) fun hk => ?_
    refine Run.one hk (ex_push _ _ _ _) (by show (base :: S.stack).length ≤ 16; rw [h3]; simp) fun hk => ?_
    refine Run.one hk (ex_push _ _ _ _) (by show (base :: base :: S.stack).length ≤ 16; rw [h3]; simp) fun hk => ?_
    refine Run.one hk (ex_load (x := base) (r := base :: S.stack) rfl (by show S.base ≤ base + 0; omega) (by show base + 0 + 4 ≤ S.base + S.dn; omega) (by omega)) (by show (_ :: base :: S.stack).length ≤ 16; rw [h3]; simp) fun hk => ?_
    have e : base + 0 - S.base = 0 := by omega
    simp only [e, h4]
    refine Run.one hk (ex_push _ _ _ _) (by show (base :: n :: base :: S.stack).length ≤ 16; rw [h3]; simp) fun hk => ?_
    refine Run.one hk (ex_load (x := base) (r := n :: base :: S.stack) rfl (by show S.base ≤ base + 0; omega) (by show base + 0 + 4 ≤ S.base + S.dn; omega) (by omega)) (by show (_ :: n :: base :: S.stack).length ≤ 16; rw [h3]; simp) fun hk => ?_
    simp only [e, h4]
    refine Run.one hk (ex_push _ _ _ _) (by show (_ :: n :: n :: base :: S.stack).length ≤ 16; rw [h3]; simp) fun hk => ?_
    refine Run.one hk (ex_sum (x := n) (y := 4294967295) (r := n :: base :: S.stack) rfl (.less _ _)) (by show (_ :: n :: base :: S.stack).length ≤ 16; rw [h3]; simp) fun hk => ?_
    refine Run.one hk (ex_sum (x := n) (y := if n < 4294967295 then 1 else 0) (r := base :: S.stack) rfl (.add _ _)) (by show (_ :: base :: S.stack).length ≤ 16; rw [h3]; simp) fun hk => ?_
    have e2 : (n + if n < 4294967295 then 1 else 0) % 4294967296 = moreN n := by
      unfold moreN
      by_cases hc : n = 4294967295
      · subst hc; rfl
      · rw [if_pos (by omega), if_neg hc]; omega
    rw [e2]
    refine Run.one hk (ex_store (x := base) (y := moreN n) (r := S.stack) rfl (by show S.base ≤ base + 0; omega) (by show base + 0 + 4 ≤ S.base + S.dn; omega) (by omega)) (by show S.stack.length ≤ 16; rw [h3]; simp) fun hk => ?_
    have hS : arsE P n (sentF n acc []) S = { S with stack := S.stack, data := putD S.data (base + 0 - S.base) (moreN n), sent := upd S.sent P (S.sent P + 1) } := by
      unfold arsE sentF
      rw [e, h3]
      have : upd S.puts (P * 16) acc = S.puts := by
        funext j; unfold upd; by_cases hj : j = P * 16; (· rw [if_pos hj, hj, h5]); (· rw [if_neg hj])
      rw [this]
    rw [hS]
    exact Run.end hk
  | x :: r, k, acc, S, hk, h1, h2, h3, h4, h5 => by
    rw [linC] at hk
    refine Run.one hk (ex_push _ _ _ _) (by show (base :: S.stack).length ≤ 16; rw [h3]; simp) fun hk => ?_
    refine Run.one hk (ex_load (x := base) (r := S.stack) rfl (by show S.base ≤ base + 0; omega) (by show base + 0 + 4 ≤ S.base + S.dn; omega) (by omega)) (by show (_ :: S.stack).length ≤ 16; rw [h3]; simp) fun hk => ?_
    have e : base + 0 - S.base = 0 := by omega
    simp only [e, h4]
    refine Run.one hk (ex_push _ _ _ _) (by show (_ :: n :: S.stack).length ≤ 16; rw [h3]; simp) fun hk => ?_
    refine Run.one hk (ex_sum (x := n) (y := x.fr) (r := S.stack) rfl (.eq _ _)) (by show (_ :: S.stack).length ≤ 16; rw [h3]; simp) fun hk => ?_
    rw [sentF]
    by_cases hc : n = x.fr
    · rw [if_pos hc, if_pos hc.symm]
      refine Run.one hk (ex_else (x := 1) (r := S.stack) rfl (by decide)) (by show S.stack.length ≤ 16; rw [h3]; simp) fun hk => ?_
      refine Run.one hk (ex_push _ _ _ _) (by show (_ :: S.stack).length ≤ 16; rw [h3]; simp) fun hk => ?_
      refine Run.one hk (ex_put (x := x.ask) (r := S.stack) rfl hP (by decide)) (by show S.stack.length ≤ 16; rw [h3]; simp) fun hk => ?_
      have ih := linC_run hb hP hn r (k + 7) x.ask { S with stack := S.stack, puts := upd S.puts (P * 16 + 0) x.ask } hk h1 h2 h3 h4 (upd_same _ _ _)
      unfold arsE at ih ⊢
      simp only [Nat.add_zero, upd_upd] at ih ⊢
      exact ih
    · rw [if_neg hc, if_neg (fun e => hc e.symm)]
      refine Run.jump hk (ex_zero (r := S.stack) rfl) (by omega) ?_
      have hk7 : code.drop (k + 7) = linC base P (k + 7) r := by
        have := (drop_get hk).2
        have := (drop_get this).2
        exact (drop_get this).2
      exact linC_run hb hP hn r (k + 7) acc S hk7 h1 h2 h3 h4 h5
theorem ars_run {base P n : Nat} {l : List PL} (h : PlanOk base P l) {S : MS} (h1 : S.base = base) (h2 : S.dn = 4) (h3 : S.stack = []) (h4 : wordD S.data 0 = n) (hn : n < 4294967296) : Run (arsC base P l) 0 S (arsE P n (sentF n 0 l) S) := by
  have hk : (arsC base P l).drop 0 = ⟨1, 0, 0, 0⟩ :: ⟨25, P, 0, 0⟩ :: linC base P 2 l := rfl
  refine Run.one hk (ex_push _ _ _ _) (by show (_ :: S.stack).length ≤ 16; rw [h3]; simp) fun hk => ?_
  refine Run.one hk (ex_put (x := 0) (r := S.stack) rfl h.port (by decide)) (by show S.stack.length ≤ 16; rw [h3]; simp) fun hk => ?_
  have ih := linC_run h.base h.port hn l 2 0 { S with stack := S.stack, puts := upd S.puts (P * 16 + 0) 0 } hk h1 h2 h3 h4 (upd_same _ _ _)
  unfold arsE at ih ⊢
  simp only [Nat.add_zero, upd_upd] at ih ⊢
  exact ih
end Go.Proofs.YtdlpgoackmgdkaaGreatDoor
