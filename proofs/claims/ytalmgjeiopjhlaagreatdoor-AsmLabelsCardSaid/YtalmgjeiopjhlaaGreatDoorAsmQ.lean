/- Plain: the lines of a text, the words of a line. -/
import Derived.Test.YtalmgjeiopjhlaaGreatDoorAsmLay
import Derived.Lib.SplitLaws
import Derived.Lib.FieldsP
import Derived.Lib.DecodeN
import Derived.Lib.IndexBytes
namespace Go.Proofs.YtalmgjeiopjhlaaGreatDoor
set_option linter.unusedVariables false
set_option linter.unusedSimpArgs false
/-- A text parted at each byte c. -/
def partL (c : UInt8) : List UInt8 → List (List UInt8)
  | [] => [[]]
  | b :: r => if b = c then [] :: partL c r else match partL c r with | [] => [[b]] | h :: t => (b :: h) :: t
theorem partL_ne (c : UInt8) : ∀ l, partL c l ≠ []
  | [] => by simp [partL]
  | b :: r => by
    unfold partL
    by_cases h : b = c
    · rw [if_pos h]; simp
    · rw [if_neg h]
      cases hp : partL c r with
      | nil => simp
      | cons x t => simp
theorem partL_hit (c : UInt8) (r : List UInt8) : partL c (c :: r) = [] :: partL c r := by rw [partL, if_pos rfl]
theorem partL_miss {b c : UInt8} (h : b ≠ c) {r x : List UInt8} {t : List (List UInt8)} (hp : partL c r = x :: t) : partL c (b :: r) = (b :: x) :: t := by rw [partL, if_neg h, hp]
/-- The head of what is parted, and the rest. -/
theorem partL_front (c : UInt8) : ∀ (p : List UInt8), c ∉ p → ∀ r, partL c (p ++ c :: r) = p :: partL c r
  | [], _, r => partL_hit c r
  | b :: p, h, r => by
    rw [List.mem_cons, not_or] at h
    exact partL_miss (fun e => h.1 e.symm) (partL_front c p h.2 r)
theorem partL_last (c : UInt8) : ∀ (p : List UInt8), c ∉ p → partL c p = [p]
  | [], _ => rfl
  | b :: p, h => by
    rw [List.mem_cons, not_or] at h
    exact partL_miss (fun e => h.1 e.symm) (partL_last c p h.2)
theorem index_cases (s : List UInt8) (c : UInt8) : (Lib.index s [c] = -1 ∧ c ∉ s) ∨ ∃ p r, s = p ++ c :: r ∧ c ∉ p ∧ Lib.index s [c] = (p.length : Int) := by
  induction s with
  | nil => left; rw [Lib.index_one]; exact ⟨rfl, by simp⟩
  | cons b l ih =>
    rw [Lib.index_one] at ih ⊢
    unfold Lib.indexByte
    by_cases hb : b = c
    · subst hb
      right
      exact ⟨[], l, rfl, List.not_mem_nil, by simp⟩
    · rw [if_neg (by simpa using hb)]
      rcases ih with ⟨h1, h2⟩ | ⟨p, r, h1, h2, h3⟩
      · left
        rw [h1]
        refine ⟨rfl, ?_⟩
        rw [List.mem_cons, not_or]; exact ⟨fun e => hb e.symm, h2⟩
      · right
        refine ⟨b :: p, r, by rw [h1]; rfl, ?_, ?_⟩
        · rw [List.mem_cons, not_or]; exact ⟨fun e => hb e.symm, h2⟩
        · rw [h3, if_neg (by simp), List.length_cons]; omega
theorem splitK_part (c : UInt8) : ∀ (n : Nat) (s : List UInt8), s.length ≤ n → Lib.splitK [c] 0 (Lib.count s [c]) s = partL c s
  | n, s, hn => by
    rcases index_cases s c with ⟨h1, h2⟩ | ⟨p, r, h1, h2, h3⟩
    · rw [Lib.count_miss h1, partL_last c s h2]; rfl
    · rw [Lib.count_hit (by simp) h3, Nat.add_comm]
      unfold Lib.splitK
      rw [if_neg (by rw [h3]; simp), h3]
      have e1 : s.take (((p.length : Int)).toNat + 0) = p := by rw [h1]; simp
      have e2 : s.drop (((p.length : Int)).toNat + [c].length) = r := by
        rw [h1]; simp
      have e3 : s.drop (p.length + [c].length) = r := by rw [h1]; simp
      rw [e1, e2, e3, h1, partL_front c p h2]
      cases n with
      | zero => rw [h1] at hn; simp at hn
      | succ n => rw [splitK_part c n r (by rw [h1] at hn; simp at hn; omega)]
theorem split_part (c : UInt8) (s : ByteArray) : (Lib.splitB ⟨#[c]⟩ 0 (Lib.countB s ⟨#[c]⟩) s).map (·.data.toList) = partL c s.data.toList := by
  rw [Lib.splitB_data]; exact splitK_part c _ _ (Nat.le_refl _)
/-- What stands ahead of the first byte c. -/
def aheadL (c : UInt8) (l : List UInt8) : List UInt8 := l.takeWhile (fun b => decide (b ≠ c))
theorem ahead_hit (c : UInt8) (r : List UInt8) : aheadL c (c :: r) = [] := by simp [aheadL]
theorem ahead_miss {b c : UInt8} (h : b ≠ c) (r : List UInt8) : aheadL c (b :: r) = b :: aheadL c r := by simp [aheadL, h]
theorem ahead_all (c : UInt8) : ∀ {p : List UInt8}, c ∉ p → aheadL c p = p
  | [], _ => rfl
  | b :: p, h => by
    rw [List.mem_cons, not_or] at h
    rw [ahead_miss (fun e => h.1 e.symm), ahead_all c h.2]
theorem ahead_front (c : UInt8) : ∀ {p : List UInt8}, c ∉ p → ∀ r, aheadL c (p ++ c :: r) = p
  | [], _, r => ahead_hit c r
  | b :: p, h, r => by
    rw [List.mem_cons, not_or] at h
    rw [List.cons_append, ahead_miss (fun e => h.1 e.symm), ahead_front c h.2]
theorem cut_ahead (c : UInt8) (s : List UInt8) : (Lib.cut s [c]).1 = aheadL c s := by
  unfold Lib.cut
  rcases index_cases s c with ⟨h1, h2⟩ | ⟨p, r, h1, h2, h3⟩
  · rw [if_neg (by rw [h1]; decide), ahead_all c h2]
  · rw [if_pos (by rw [h3]; omega), h3, h1, ahead_front c h2]; simp
/-- Words, one behind the other; cur: what was read of one. -/
def flushL (cur : List UInt8) (t : List (List UInt8)) : List (List UInt8) := if cur = [] then t else cur :: t
def wordsG (cur : List UInt8) : List UInt8 → List (List UInt8)
  | [] => flushL cur []
  | b :: r => if b = 32 then flushL cur (wordsG [] r) else wordsG (cur ++ [b]) r
def wordsL (l : List UInt8) : List (List UInt8) := wordsG [] (aheadL 59 l)
theorem wordsG_many : ∀ (q : List UInt8), 32 ∉ q → ∀ (cur r : List UInt8), wordsG cur (q ++ r) = wordsG (cur ++ q) r
  | [], _, cur, r => by simp
  | b :: q, h, cur, r => by
    rw [List.mem_cons, not_or] at h
    rw [List.cons_append, wordsG, if_neg (fun e => h.1 e.symm), wordsG_many q h.2, List.append_assoc]; rfl
theorem wordsG_nonempty : ∀ (l cur : List UInt8), ∀ x ∈ wordsG cur l, x ≠ [] ∧ x.length ≤ cur.length + l.length
  | [], cur, x, hx => by
    unfold wordsG flushL at hx
    by_cases h : cur = []
    · rw [if_pos h] at hx; cases hx
    · rw [if_neg h] at hx
      simp at hx; subst hx; exact ⟨h, by simp⟩
  | b :: r, cur, x, hx => by
    unfold wordsG at hx
    by_cases hb : b = 32
    · rw [if_pos hb] at hx
      unfold flushL at hx
      by_cases h : cur = []
      · rw [if_pos h] at hx
        have := wordsG_nonempty r [] x hx
        exact ⟨this.1, by have := this.2; simp at this ⊢; omega⟩
      · rw [if_neg h] at hx
        rcases List.mem_cons.1 hx with rfl | hx
        · exact ⟨h, by simp⟩
        · have := wordsG_nonempty r [] x hx
          exact ⟨this.1, by have := this.2; simp at this ⊢; omega⟩
    · rw [if_neg hb] at hx
      have := wordsG_nonempty r (cur ++ [b]) x hx
      exact ⟨this.1, by have := this.2; simp at this ⊢; omega⟩
theorem aheadL_len (c : UInt8) (l : List UInt8) : (aheadL c l).length ≤ l.length := by
  unfold aheadL; exact (List.takeWhile_sublist _).length_le
theorem wordsL_nonempty {l x : List UInt8} (hx : x ∈ wordsL l) : x ≠ [] ∧ x.length ≤ l.length := by
  have := wordsG_nonempty _ _ x hx
  have h2 := aheadL_len 59 l
  exact ⟨this.1, by have := this.2; simp at this; omega⟩
theorem decN_bytes (n b0 b1 b2 b3 : Nat) (h : 0 < n) : (b0 = 32 ∧ Lib.decodeN n b0 b1 b2 b3 = (32, 1)) ∨
    ((Lib.decodeN n b0 b1 b2 b3).1 ≠ 32 ∧ 0 < (Lib.decodeN n b0 b1 b2 b3).2 ∧ (Lib.decodeN n b0 b1 b2 b3).2 ≤ n ∧ (Lib.decodeN n b0 b1 b2 b3).2 ≤ 4 ∧ b0 ≠ 32 ∧ (1 < (Lib.decodeN n b0 b1 b2 b3).2 → b1 ≠ 32) ∧ (2 < (Lib.decodeN n b0 b1 b2 b3).2 → b2 ≠ 32) ∧ (3 < (Lib.decodeN n b0 b1 b2 b3).2 → b3 ≠ 32)) := by
  have one : ∀ c : Nat, c ≠ 32 → b0 ≠ 32 → ((c, 1).1 ≠ 32 ∧ 0 < (c, 1).2 ∧ (c, 1).2 ≤ n ∧ (c, 1).2 ≤ 4 ∧ b0 ≠ 32 ∧ (1 < (c, 1).2 → b1 ≠ 32) ∧ (2 < (c, 1).2 → b2 ≠ 32) ∧ (3 < (c, 1).2 → b3 ≠ 32)) := fun c hc hb => ⟨hc, by show 0 < 1; omega, by show 1 ≤ n; omega, by show 1 ≤ 4; omega, hb, fun h => absurd h (by show ¬ 1 < 1; omega), fun h => absurd h (by show ¬ 2 < 1; omega), fun h => absurd h (by show ¬ 3 < 1; omega)⟩
  unfold Lib.decodeN
  by_cases c0 : b0 < 128
  · rw [if_pos c0]
    by_cases e : b0 = 32
    · left; rw [e]; exact ⟨rfl, rfl⟩
    · right; exact one b0 e e
  rw [if_neg c0]
  have hb : b0 ≠ 32 := by omega
  have err := one 65533 (by decide) hb
  right
  split
  · rename_i hc
    split
    · exact ⟨by show _ ≠ _; omega, by show 0 < 2; omega, by show 2 ≤ n; omega, by show 2 ≤ 4; omega, hb, fun _ => by omega, fun h => absurd h (by show ¬ 2 < 2; omega), fun h => absurd h (by show ¬ 3 < 2; omega)⟩
    · exact err
  split
  · rename_i hc
    split
    · exact ⟨by show _ ≠ _; omega, by show 0 < 3; omega, by show 3 ≤ n; omega, by show 3 ≤ 4; omega, hb, fun _ => by omega, fun _ => by omega, fun h => absurd h (by show ¬ 3 < 3; omega)⟩
    · exact err
  split
  · rename_i hc
    split
    · exact ⟨by show _ ≠ _; omega, by show 0 < 4; omega, by show 4 ≤ n; omega, by show 4 ≤ 4; omega, hb, fun _ => by omega, fun _ => by omega, fun _ => by omega⟩
    · exact err
  · exact err
theorem get_list (s : ByteArray) (k : Nat) (h : k < s.size) : s.data.toList[k]? = some (s.get! k) := by
  have hl : s.data.toList.length = s.size := by rw [Array.length_toList]; rfl
  rw [List.getElem?_eq_getElem (by omega)]
  congr 1
  simp [ByteArray.get!]
  rw [getElem!_pos s.data k h]
theorem decode_bytes (s : ByteArray) (pos : Nat) (h : pos < s.size) : ((∃ r, s.data.toList.drop pos = 32 :: r) ∧ Utf8.decode s pos = (32, 1)) ∨
    ((Utf8.decode s pos).1 ≠ 32 ∧ 0 < (Utf8.decode s pos).2 ∧ pos + (Utf8.decode s pos).2 ≤ s.size ∧ 32 ∉ (s.data.toList.drop pos).take (Utf8.decode s pos).2) := by
  have hl : s.data.toList.length = s.size := by rw [Array.length_toList]; rfl
  rw [Lib.decode_at]
  rcases decN_bytes (s.size - pos) (s.get! pos).toNat (s.get! (pos + 1)).toNat (s.get! (pos + 2)).toNat (s.get! (pos + 3)).toNat (by omega) with ⟨h1, h2⟩ | ⟨h1, h2, h3, h4, g0, g1, g2, g3⟩
  · left
    refine ⟨⟨s.data.toList.drop (pos + 1), ?_⟩, h2⟩
    have e := get_list s pos h
    rw [List.drop_eq_getElem_cons (by omega)]
    congr 1
    rw [List.getElem?_eq_getElem (by omega)] at e
    rw [Option.some.inj e]
    exact UInt8.toNat_inj.1 h1
  · right
    refine ⟨h1, h2, by omega, fun hm => ?_⟩
    generalize (Lib.decodeN (s.size - pos) (s.get! pos).toNat (s.get! (pos + 1)).toNat (s.get! (pos + 2)).toNat (s.get! (pos + 3)).toNat).2 = k at *
    obtain ⟨j, hj, he⟩ := List.mem_iff_getElem.1 hm
    rw [List.length_take, List.length_drop] at hj
    rw [List.getElem_take, List.getElem_drop] at he
    have e := get_list s (pos + j) (by omega)
    rw [List.getElem?_eq_getElem (by omega), he] at e
    have e' := Option.some.inj e
    have hq : (s.get! (pos + j)).toNat = 32 := by rw [← e']; rfl
    have : j = 0 ∨ j = 1 ∨ j = 2 ∨ j = 3 := by omega
    rcases this with rfl | rfl | rfl | rfl
    · exact g0 hq
    · exact g1 (by omega) hq
    · exact g2 (by omega) hq
    · exact g3 (by omega) hq
/-- The bytes of a word that began at st. -/
def curL (s : ByteArray) (st : Option Nat) (pos : Nat) : List UInt8 := match st with | none => [] | some a => (s.data.toList.drop a).take (pos - a)
theorem ext_cur (s : ByteArray) (a b : Nat) : (s.extract a b).data.toList = curL s (some a) b := by
  rw [Lib.extract_data]; rfl
def isSp (c : Nat) : Bool := decide (c = 32)
def outL (s : ByteArray) (x : List (Nat × Nat)) : List (List UInt8) := x.map fun p => (s.extract p.1 p.2).data.toList
theorem cur_ne {s : ByteArray} {a pos : Nat} (h : a < pos) (hp : pos ≤ s.size) : curL s (some a) pos ≠ [] := by
  have hl : s.data.toList.length = s.size := by rw [Array.length_toList]; rfl
  intro e
  have := congrArg List.length e
  unfold curL at this
  rw [List.length_take, List.length_drop, List.length_nil] at this
  omega
theorem cur_more {s : ByteArray} {st : Option Nat} {pos k : Nat} (h : st = none ∨ ∃ a, st = some a ∧ a < pos) : curL s (some (st.getD pos)) (pos + k) = curL s st pos ++ (s.data.toList.drop pos).take k := by
  rcases h with rfl | ⟨a, rfl, ha⟩
  · show (s.data.toList.drop pos).take (pos + k - pos) = [] ++ _
    rw [List.nil_append, Nat.add_sub_cancel_left]
  · show (s.data.toList.drop a).take (pos + k - a) = (s.data.toList.drop a).take (pos - a) ++ _
    rw [show pos + k - a = (pos - a) + k by omega, List.take_add, List.drop_drop, show a + (pos - a) = pos by omega]
theorem spans_words (s : ByteArray) : ∀ (f pos : Nat) (st : Option Nat) (acc : List (Nat × Nat)), s.size - pos ≤ f → pos ≤ s.size → (st = none ∨ ∃ a, st = some a ∧ a < pos) →
    outL s (Lib.closeSpans s (Lib.spansFromP isSp s f pos st acc)) = outL s acc ++ wordsG (curL s st pos) (s.data.toList.drop pos) := by
  have hl : s.data.toList.length = s.size := by rw [Array.length_toList]; rfl
  have fin : ∀ (f pos : Nat) (st : Option Nat) (acc : List (Nat × Nat)), ¬ pos < s.size → pos ≤ s.size → (st = none ∨ ∃ a, st = some a ∧ a < pos) → outL s (Lib.closeSpans s (Lib.spansFromP isSp s f pos st acc)) = outL s acc ++ wordsG (curL s st pos) (s.data.toList.drop pos) := by
    intro f pos st acc h hp hst
    obtain rfl : pos = s.size := by omega
    rw [Lib.spansFromP_end _ _ _ _ _ _ h, List.drop_of_length_le (by omega)]
    rcases hst with rfl | ⟨a, rfl, ha⟩
    · show outL s acc = outL s acc ++ []
      rw [List.append_nil]
    · show outL s (acc ++ [(a, s.size)]) = outL s acc ++ flushL _ []
      unfold flushL
      rw [if_neg (cur_ne ha (Nat.le_refl _))]
      unfold outL; rw [List.map_append, List.map_cons, List.map_nil, ext_cur]
  intro f
  induction f with
  | zero => intro pos st acc hf hp hst; exact fin 0 pos st acc (by omega) hp hst
  | succ f ih =>
    intro pos st acc hf hp hst
    by_cases hlt : pos < s.size
    case neg => exact fin (f + 1) pos st acc hlt hp hst
    unfold Lib.spansFromP
    rw [if_pos hlt]
    rcases decode_bytes s pos hlt with ⟨⟨r, hr⟩, hd⟩ | ⟨h1, h2, h3, h4⟩
    · rw [hd]
      have hi : isSp (32, 1).1 = true := rfl
      rw [if_pos hi]
      have hr' : s.data.toList.drop (pos + 1) = r := by
        rw [← List.drop_drop, hr]; rfl
      rw [hr]
      rcases hst with rfl | ⟨a, rfl, ha⟩
      · show outL s (Lib.closeSpans s (Lib.spansFromP isSp s f (pos + 1) none acc)) = _
        rw [ih (pos + 1) none acc (by omega) (by omega) (.inl rfl), hr']
        rfl
      · show outL s (Lib.closeSpans s (Lib.spansFromP isSp s f (pos + 1) none (acc ++ [(a, pos)]))) = _
        rw [ih (pos + 1) none _ (by omega) (by omega) (.inl rfl), hr']
        rw [show wordsG (curL s (some a) pos) (32 :: r) = flushL (curL s (some a) pos) (wordsG [] r) from by rw [wordsG, if_pos rfl]]
        unfold flushL
        rw [if_neg (cur_ne ha (by omega))]
        unfold outL
        rw [List.map_append, List.map_cons, List.map_nil, ext_cur, List.append_assoc]
        rfl
    · have hi : ¬ isSp (Utf8.decode s pos).1 = true := by unfold isSp; rw [decide_eq_true_eq]; exact h1
      rw [if_neg hi]
      generalize (Utf8.decode s pos).2 = k at *
      have hst2 : st = none ∨ ∃ a, st = some a ∧ a < pos := hst
      have hs : outL s (Lib.closeSpans s (Lib.spansFromP isSp s f (pos + k) (some (st.getD pos)) acc)) = outL s acc ++ wordsG (curL s st pos) (s.data.toList.drop pos) := ?_
      · cases st <;> exact hs
      rw [ih (pos + k) _ acc (by omega) (by omega) (.inr ⟨_, rfl, by rcases hst with rfl | ⟨a, rfl, ha⟩ <;> simp <;> omega⟩), cur_more hst]
      congr 1
      conv => rhs; rw [← List.take_append_drop k (s.data.toList.drop pos), List.drop_drop]
      rw [wordsG_many _ h4]
theorem fields_words (s : ByteArray) : (Lib.goFieldsP isSp s).map (·.data.toList) = wordsG [] s.data.toList := by
  have := spans_words s s.size 0 none [] (by omega) (by omega) (.inl rfl)
  rw [show outL s [] = [] from rfl, List.nil_append] at this
  rw [show curL s none 0 = [] from rfl, List.drop_zero] at this
  rw [← this]
  unfold Lib.goFieldsP Lib.spansOfP outL
  rw [List.map_map]; rfl
/-- A text's lines, each one's words. -/
theorem line_words (s : ByteArray) : (Lib.goFieldsP isSp ⟨(Lib.cut s.data.toList [59]).1.toArray⟩).map (·.data.toList) = wordsL s.data.toList := by
  rw [fields_words, cut_ahead]; rfl
end Go.Proofs.YtalmgjeiopjhlaaGreatDoor
