/- Texts: equal just where the instructions are; a text begins with its name. -/
import Derived.Test.YtalmgjeiopjhlaaGreatDoorIsaOp
import Derived.Test.YtalmgjeiopjhlaaGreatDoorIsaFmt
import Derived.Test.YtalmgjeiopjhlaaGreatDoorIsaReadsA
namespace Go.Proofs.YtalmgjeiopjhlaaGreatDoor
open Go.RowKit
set_option linter.unusedVariables false
theorem str_eq (s t : ByteArray) : (s.toList == t.toList) = decide (s.data.toList = t.data.toList) := by
  rw [ByteArray.toList_eq, ByteArray.toList_eq]
  by_cases h : s.data.toList = t.data.toList
  · rw [h]; simp
  · rw [decide_eq_false h]
    exact beq_eq_false_iff_ne.2 h
theorem data_app (s t : ByteArray) : (s ++ t).data.toList = s.data.toList ++ t.data.toList := by simp [ByteArray.data_append]
theorem data_dec (n : Nat) : (decS n).data.toList = Lib.decDigits n := rfl
theorem data_name (op : Nat) : (nameS op).data.toList = (rowAt op).name := rfl
def isLet (b : UInt8) : Bool := decide (97 ≤ b.toNat) && decide (b.toNat ≤ 122)
def isDig (b : UInt8) : Bool := decide (48 ≤ b.toNat) && decide (b.toNat ≤ 57)
theorem dig_val (k : Nat) (h : k < 10) : (UInt8.ofNat (48 + k)).toNat = 48 + k := by
  rw [UInt8.toNat_ofNat']; omega
theorem dec_dig : ∀ (n : Nat), ∀ b ∈ Lib.decDigits n, isDig b = true := by
  intro n
  induction n using Nat.strongRecOn with
  | ind n ih =>
    intro b hb
    rw [Lib.decDigits] at hb
    split at hb
    · rename_i h
      rw [List.mem_singleton] at hb
      subst hb
      unfold isDig
      rw [dig_val n h]
      simp; omega
    · rename_i h
      rcases List.mem_append.1 hb with hb | hb
      · exact ih _ (by omega) b hb
      · rw [List.mem_singleton] at hb
        subst hb
        unfold isDig
        rw [dig_val (n % 10) (by omega)]
        simp; omega
def valD (l : List UInt8) : Nat := l.foldl (fun a b => 10 * a + (b.toNat - 48)) 0
theorem valD_dec : ∀ n, valD (Lib.decDigits n) = n := by
  intro n
  induction n using Nat.strongRecOn with
  | ind n ih =>
    rw [Lib.decDigits]
    split
    · rename_i h
      show 10 * 0 + ((UInt8.ofNat (48 + n)).toNat - 48) = n
      rw [dig_val n h]; omega
    · rename_i h
      have e := ih (n / 10) (by omega)
      unfold valD at e ⊢
      rw [List.foldl_append, e]
      show 10 * (n / 10) + ((UInt8.ofNat (48 + n % 10)).toNat - 48) = n
      rw [dig_val (n % 10) (by omega)]; omega
theorem dec_inj {n m : Nat} (h : Lib.decDigits n = Lib.decDigits m) : n = m := by rw [← valD_dec n, h, valD_dec]
theorem dec_head (n : Nat) : ∃ d r, Lib.decDigits n = d :: r ∧ isDig d = true := by
  have hl : 1 ≤ (Lib.decDigits n).length := by rw [Lib.decDigits_length]; exact Lib.nDigits_pos n
  have hd := dec_dig n
  match hm : Lib.decDigits n with
  | [] => rw [hm] at hl; simp at hl
  | d :: r => exact ⟨d, r, rfl, hd d (by rw [hm]; simp)⟩
theorem split_eq {p : UInt8 → Bool} : ∀ {l1 l2 r1 r2 : List UInt8}, (∀ b ∈ l1, p b = true) → (∀ b ∈ l2, p b = true) → (∀ b, r1.head? = some b → p b = false) → (∀ b, r2.head? = some b → p b = false) → l1 ++ r1 = l2 ++ r2 → l1 = l2 ∧ r1 = r2
  | [], [], r1, r2, _, _, _, _, h => ⟨rfl, h⟩
  | [], b :: l2, r1, r2, _, h2, h3, _, h => by
    have := h3 b (by rw [List.nil_append] at h; rw [h]; rfl)
    rw [h2 b (by simp)] at this; cases this
  | a :: l1, [], r1, r2, h1, _, _, h4, h => by
    have := h4 a (by rw [List.nil_append] at h; rw [← h]; rfl)
    rw [h1 a (by simp)] at this; cases this
  | a :: l1, b :: l2, r1, r2, h1, h2, h3, h4, h => by
    rw [List.cons_append, List.cons_append] at h
    obtain ⟨e0, e1⟩ := List.cons.inj h
    obtain ⟨e2, e3⟩ := split_eq (fun b hb => h1 b (List.mem_cons_of_mem _ hb)) (fun b hb => h2 b (List.mem_cons_of_mem _ hb)) h3 h4 e1
    exact ⟨by rw [e0, e2], e3⟩
def tailL (nm a b c : Nat) : List UInt8 := if nm = 0 then [] else if nm = 1 then 32 :: Lib.decDigits a else if nm = 3 then 32 :: (Lib.decDigits a ++ 32 :: Lib.decDigits b) else if nm = 4 then 32 :: Lib.decDigits c else Lib.decDigits a ++ 32 :: Lib.decDigits c
theorem text_data (nm : Nat) (s : ByteArray) (a b c : Nat) : (textN nm s a b c).data.toList = s.data.toList ++ tailL nm a b c := by
  have hb : blank.data.toList = [32] := rfl
  unfold textN tailL
  by_cases h0 : nm = 0
  · rw [if_pos h0, if_pos h0]; simp
  rw [if_neg h0, if_neg h0]
  by_cases h1 : nm = 1
  · rw [if_pos h1, if_pos h1, data_app, data_app, hb, data_dec]; rfl
  rw [if_neg h1, if_neg h1]
  by_cases h3 : nm = 3
  · rw [if_pos h3, if_pos h3]; simp only [data_app, hb, data_dec]; simp
  rw [if_neg h3, if_neg h3]
  by_cases h4 : nm = 4
  · rw [if_pos h4, if_pos h4, data_app, data_app, hb, data_dec]; rfl
  rw [if_neg h4, if_neg h4]
  simp only [data_app, hb, data_dec]; simp
theorem dig_let {d : UInt8} (h : isDig d = true) : isLet d = false := by
  unfold isDig at h; unfold isLet
  simp at h ⊢; omega
theorem tail_low (nm a b c : Nat) : ∀ x, (tailL nm a b c).head? = some x → x.toNat < 97 := by
  intro x h
  unfold tailL at h
  obtain ⟨d, r, e, hd⟩ := dec_head a
  rw [e] at h
  split at h
  · cases h
  split at h
  · cases h; decide
  split at h
  · cases h; decide
  split at h
  · cases h; decide
  · cases h
    unfold isDig at hd
    simp at hd; omega
theorem tail_head (nm a b c : Nat) : ∀ x, (tailL nm a b c).head? = some x → isLet x = false := by
  intro x h
  unfold tailL at h
  obtain ⟨d, r, e, hd⟩ := dec_head a
  rw [e] at h
  split at h
  · cases h
  split at h
  · cases h; rfl
  split at h
  · cases h; rfl
  split at h
  · cases h; rfl
  · cases h; exact dig_let hd
theorem name_let : ∀ op, ∀ b ∈ (rowAt op).name, isLet b = true := by
  intro op
  by_cases h : op < 28
  · have : ∀ op, op < 28 → ((rowAt op).name.all isLet) = true := by decide
    exact List.all_eq_true.1 (this op h)
  · rw [rowAt_none (by omega)]; intro b hb; cases hb
theorem name_inj : ∀ x, x < 28 → ∀ y, y < 28 → (rowAt x).name ≠ [] → (rowAt x).name = (rowAt y).name → x = y := by decide
theorem may_row {i : Ins} (h : i.may = true) : (rowAt i.op).name ≠ [] ∧ i.op < 28 ∧ mayN (rowAt i.op).nm i.a i.b i.c = true ∧ ((rowAt i.op).nm = 0 ∨ (rowAt i.op).nm = 1 ∨ (rowAt i.op).nm = 3 ∨ (rowAt i.op).nm = 4 ∨ (rowAt i.op).nm = 12) := by
  rcases row_class i.op with ⟨hn, hr⟩ | ⟨hn, ho, hr⟩
  · exact absurd h (by rw [may_no hr]; decide)
  · exact ⟨hn, ho, by rw [← may_of hn rfl]; exact h, by rcases hr with hr | ⟨hr, _⟩ | ⟨hr, _⟩ | hr | hr <;> simp [hr]⟩
theorem text_list {i : Ins} (h : i.may = true) : i.text.data.toList = (rowAt i.op).name ++ tailL (rowAt i.op).nm i.a i.b i.c := by
  unfold Ins.text
  rw [h, if_pos rfl, text_data]; rfl
theorem mayN_0 {a b c : Nat} (h : mayN 0 a b c = true) : a = 0 ∧ b = 0 ∧ c = 0 := by unfold mayN at h; simp at h; omega
theorem mayN_1 {a b c : Nat} (h : mayN 1 a b c = true) : b = 0 ∧ c = 0 := by unfold mayN at h; simp at h; omega
theorem mayN_3 {a b c : Nat} (h : mayN 3 a b c = true) : c = 0 := by unfold mayN at h; simp at h; omega
theorem mayN_4 {a b c : Nat} (h : mayN 4 a b c = true) : a = 0 ∧ b = 0 := by unfold mayN at h; simp at h; omega
theorem mayN_12 {a b c : Nat} (h : mayN 12 a b c = true) : b = 0 := by unfold mayN at h; simp at h; omega
theorem head32 {r : List UInt8} : ∀ b, (32 :: r).head? = some b → isDig b = false := by intro b h; cases h; rfl
theorem head0 : ∀ b, ([] : List UInt8).head? = some b → isDig b = false := by intro b h; cases h
theorem text_inj {i j : Ins} (hi : i.may = true) (hj : j.may = true) (h : i.text.data.toList = j.text.data.toList) : i = j := by
  rw [text_list hi, text_list hj] at h
  obtain ⟨n1, o1, m1, k1⟩ := may_row hi
  obtain ⟨n2, o2, m2, k2⟩ := may_row hj
  obtain ⟨e1, e2⟩ := split_eq (name_let i.op) (name_let j.op) (tail_head _ _ _ _) (tail_head _ _ _ _) h
  have eo := name_inj _ o1 _ o2 n1 e1
  obtain ⟨op, a, b, c⟩ := i
  obtain ⟨op', a', b', c'⟩ := j
  simp only at eo e2 m1 m2 k1
  subst eo
  clear h e1 k2 n1 n2 o1 o2 hi hj
  rcases k1 with hk | hk | hk | hk | hk
  · rw [hk] at m1 m2
    obtain ⟨rfl, rfl, rfl⟩ := mayN_0 m1
    obtain ⟨rfl, rfl, rfl⟩ := mayN_0 m2
    rfl
  · rw [hk] at m1 m2 e2
    obtain ⟨rfl, rfl⟩ := mayN_1 m1
    obtain ⟨rfl, rfl⟩ := mayN_1 m2
    obtain rfl := dec_inj (List.cons.inj e2).2
    rfl
  · rw [hk] at m1 m2 e2
    obtain rfl := mayN_3 m1
    obtain rfl := mayN_3 m2
    obtain ⟨f1, f2⟩ := split_eq (dec_dig a) (dec_dig a') head32 head32 (List.cons.inj e2).2
    obtain rfl := dec_inj f1
    obtain rfl := dec_inj (List.cons.inj f2).2
    rfl
  · rw [hk] at m1 m2 e2
    obtain ⟨rfl, rfl⟩ := mayN_4 m1
    obtain ⟨rfl, rfl⟩ := mayN_4 m2
    obtain rfl := dec_inj (List.cons.inj e2).2
    rfl
  · rw [hk] at m1 m2 e2
    obtain rfl := mayN_12 m1
    obtain rfl := mayN_12 m2
    obtain ⟨f1, f2⟩ := split_eq (dec_dig a) (dec_dig a') head32 head32 e2
    obtain rfl := dec_inj f1
    obtain rfl := dec_inj (List.cons.inj f2).2
    rfl
def byteN (s : ByteArray) (k : Nat) : Nat := (s.data.toList.getD k 0).toNat
theorem byteN_lt (s : ByteArray) (k : Nat) : byteN s k < 256 := UInt8.toNat_lt _
theorem index_str (s : ByteArray) (k : Nat) (h : k < s.size) (t : TypeId) (ht : Tryz.prog.underlying t = some .string) (w : World) : (Instr.index t (.string s) (.int .i64 (k : Int))).run Tryz.prog w = .ok (.int .u8 ((byteN s k : Nat) : Int)) w := by
  rw [run_index_string w t s .i64 (k : Int) ht, dif_pos ⟨by omega, by omega⟩]
  have hk : k < s.data.toList.length := by simpa using h
  have e : byteN s k = (s.data.toList[k]).toNat := by unfold byteN; rw [List.getD_eq_getElem?_getD, List.getElem?_eq_getElem hk]; rfl
  rw [e]
  rfl
theorem opHit_eq (s : ByteArray) (k : Nat) : opHit s k = (decide (0 < k) && decide ((rowAt k).name = s.data.toList)) := by unfold opHit; rw [str_eq]; rfl
theorem opOf_name {op : Nat} (h : op < 28) (hn : (rowAt op).name ≠ []) (s : ByteArray) (hs : s.data.toList = (rowAt op).name) : opOf s = op := by
  have h0 : 0 < op := by
    rcases Nat.eq_zero_or_pos op with e | e
    · subst e; exact absurd rfl hn
    · exact e
  refine opOf_at h (by rw [opHit_eq, hs]; simp [h0]) (fun j hj => ?_)
  rw [opHit_eq, hs]
  by_cases e : (rowAt j).name = (rowAt op).name
  · have := name_inj op h j (by omega) hn e.symm
    omega
  · simp [e]
theorem byteN_let {i : Ins} (h : i.may = true) {k : Nat} (hk : k < (rowAt i.op).name.length) : 97 ≤ byteN i.text k ∧ byteN i.text k ≤ 122 ∧ k < i.text.size := by
  have hs : k < i.text.data.toList.length := by rw [text_list h, List.length_append]; omega
  have e : byteN i.text k = ((rowAt i.op).name[k]).toNat := by
    unfold byteN
    rw [text_list h, List.getD_eq_getElem?_getD, List.getElem?_append_left hk, List.getElem?_eq_getElem hk]; rfl
  have := name_let i.op _ (List.getElem_mem hk)
  unfold isLet at this
  simp at this
  exact ⟨by rw [e]; exact this.1, by rw [e]; exact this.2, by simpa using hs⟩
theorem byteN_end {i : Ins} (h : i.may = true) (hk : (rowAt i.op).name.length < i.text.size) : byteN i.text (rowAt i.op).name.length < 97 := by
  have hs : (rowAt i.op).name.length < i.text.data.toList.length := by simpa using hk
  have e : byteN i.text (rowAt i.op).name.length = ((tailL (rowAt i.op).nm i.a i.b i.c).getD 0 0).toNat := by
    unfold byteN
    rw [text_list h, List.getD_eq_getElem?_getD, List.getElem?_append_right (Nat.le_refl _), Nat.sub_self, List.getD_eq_getElem?_getD]
  rw [text_list h, List.length_append] at hs
  rw [e]
  match ht : tailL (rowAt i.op).nm i.a i.b i.c with
  | [] => rw [ht] at hs; simp at hs
  | x :: r =>
    exact tail_low (rowAt i.op).nm i.a i.b i.c x (by rw [ht]; rfl)
theorem name_le {i : Ins} (h : i.may = true) : (rowAt i.op).name.length ≤ i.text.size := by
  have : i.text.data.toList.length = i.text.size := by simp
  rw [text_list h, List.length_append] at this
  omega
theorem text_size (i : Ins) (h : i.ok) : i.text.size ≤ 64 := by
  have hs : i.text.data.toList.length = i.text.size := by simp
  rw [← hs]
  cases hm : i.may
  · unfold Ins.text; rw [hm]; simp
  · rw [text_list hm, List.length_append]
    have h1 : (rowAt i.op).name.length ≤ 5 := nameS_size i.op
    have ha := h.a; have hb := h.b; have hc := h.c
    have d1 : (Lib.decDigits i.a).length ≤ 20 := decS_size i.a (by omega)
    have d2 : (Lib.decDigits i.b).length ≤ 20 := decS_size i.b (by omega)
    have d3 : (Lib.decDigits i.c).length ≤ 20 := decS_size i.c (by omega)
    unfold tailL
    repeat' split
    all_goals simp
    all_goals omega
/-- The first letters of a text, as a value of their own. -/
def cutS (s : ByteArray) (k : Nat) : ByteArray := s.extract 0 k
theorem cut_name {i : Ins} (h : i.may = true) : (cutS i.text (rowAt i.op).name.length).data.toList = (rowAt i.op).name := by
  unfold cutS
  rw [ByteArray.data_extract, Array.toList_extract, text_list h]
  simp
theorem cut_run (s : ByteArray) (k : Nat) (h : k ≤ s.size) (t : TypeId) (ht : Tryz.prog.underlying t = some .string) (w : World) : (Instr.sliceAt t (.string s) none (some (.int .i64 (k : Int))) none).run Tryz.prog w = .ok (.string (cutS s k)) w := by
  rw [run_sliceAt_string w t _ _ _ _ ht]
  unfold cutS
  simp [Instr.slice, run_underlying ht, Instr.sliceBounds, run_sliceBound, h]
theorem text_tab (i : Ins) (w : World) (h : i.ok) (ht : TabW w) : Calls Tryz.prog 33 #[i.val] w fun e w' => e = .returned (.string i.text) ∧ Below w.heap.size w w' :=
  text_any i w h (fun W hb => fmt_any i.c (by have := h.c; omega) W (ht.below hb))
theorem text_eq {i j : Ins} (hi : i.may = true) (hj : j.may = true) : (i.text.toList == j.text.toList) = i.eq j := by
  rw [str_eq]
  by_cases h : i = j
  · subst h
    rw [Ins.eq_refl]; simp
  · have h1 : ¬ i.text.data.toList = j.text.data.toList := fun e => h (text_inj hi hj e)
    rw [decide_eq_false h1]
    symm
    unfold Ins.eq
    obtain ⟨op, a, b, c⟩ := i
    obtain ⟨op', a', b', c'⟩ := j
    simp only [Bool.and_eq_false_iff, beq_eq_false_iff_ne]
    by_cases e0 : op = op'
    · by_cases e1 : a = a'
      · by_cases e2 : b = b'
        · by_cases e3 : c = c'
          · exact absurd (by rw [e0, e1, e2, e3]) h
          · exact .inr e3
        · exact .inl (.inr e2)
      · exact .inl (.inl (.inr e1))
    · exact .inl (.inl (.inl e0))
theorem text_no {i : Ins} (h : i.may = false) : i.text = ⟨#[]⟩ := by unfold Ins.text; rw [h]; rfl
theorem empty_eq : (({ data := #[] } : ByteArray).toList == ({ data := #[] } : ByteArray).toList) = true := by rw [str_eq]; rfl
end Go.Proofs.YtalmgjeiopjhlaaGreatDoor
