/- Plain: the lines of a text, the words of a line. -/
import Derived.Test.YtdlpgoackmgdkaaGreatDoorZAsmLay
import Derived.Lib.SplitLaws
import Derived.Lib.FieldsP
import Derived.Lib.DecodeN
import Derived.Lib.IndexBytes
import Derived.Test.YtdlpgoackmgdkaaGreatDoorZAsmA
import Derived.Deep.OwnRows
import Derived.Maps.AppendAt
namespace Go.Proofs.YtdlpgoackmgdkaaGreatDoor
set_option linter.unusedVariables false
set_option linter.unusedSimpArgs false
/-- A text parted at each byte c. -/
def partL (c : UInt8) : List UInt8 → List (List UInt8)
  | [] => [[]]
  | b :: r => if b = c then [] :: partL c r else match partL c r with | [] => [[b]] | h :: t => (b :: h) :: t
theorem partL_hit (c : UInt8) (r : List UInt8) : partL c (c :: r) = [] :: partL c r := by rw [partL, if_pos rfl]
theorem partL_miss {b c : UInt8} (h : b ≠ c) {r x : List UInt8} {t : List (List UInt8)} (hp : partL c r = x :: t) : partL c (b :: r) = (b :: x) :: t := by rw [partL, if_neg h, hp]
/-- The head of what is parted, and the rest. -/
theorem partL_front (c : UInt8) : ∀ (p : List UInt8), c ∉ p → ∀ r, partL c (p ++ c :: r) = p :: partL c r
  | [], _, r => partL_hit c r
  | b :: p, h, r => by
    rw [List.mem_cons, not_or] at h
    exact partL_miss (fun e => h.1 e.symm) (partL_front c p h.2 r)
theorem partL_last (c : UInt8) : ∀ (p : List UInt8), c ∉ p → partL c p = [p]
  | [], _ => rfl
  | b :: p, h => by
    rw [List.mem_cons, not_or] at h
    exact partL_miss (fun e => h.1 e.symm) (partL_last c p h.2)
theorem index_cases (s : List UInt8) (c : UInt8) : (Lib.index s [c] = -1 ∧ c ∉ s) ∨ ∃ p r, s = p ++ c :: r ∧ c ∉ p ∧ Lib.index s [c] = (p.length : Int) := by
  induction s with
  | nil => left; rw [Lib.index_one]; exact ⟨rfl, by simp⟩
  | cons b l ih =>
    rw [Lib.index_one] at ih ⊢
    unfold Lib.indexByte
    by_cases hb : b = c
    · subst hb
      right
      exact ⟨[], l, rfl, List.not_mem_nil, by simp⟩
    · rw [if_neg (by simpa using hb)]
      rcases ih with ⟨h1, h2⟩ | ⟨p, r, h1, h2, h3⟩
      · left
        rw [h1]
        refine ⟨rfl, ?_⟩
        rw [List.mem_cons, not_or]; exact ⟨fun e => hb e.symm, h2⟩
      · right
        refine ⟨b :: p, r, by rw [h1]; rfl, ?_, ?_⟩
        · rw [List.mem_cons, not_or]; exact ⟨fun e => hb e.symm, h2⟩
        · rw [h3, if_neg (by simp), List.length_cons]; omega
theorem splitK_part (c : UInt8) : ∀ (n : Nat) (s : List UInt8), s.length ≤ n → Lib.splitK [c] 0 (Lib.count s [c]) s = partL c s
  | n, s, hn => by
    rcases index_cases s c with ⟨h1, h2⟩ | ⟨p, r, h1, h2, h3⟩
    · rw [Lib.count_miss h1, partL_last c s h2]; rfl
    · rw [Lib.count_hit (by simp) h3, Nat.add_comm]
      unfold Lib.splitK
      rw [if_neg (by rw [h3]; simp), h3]
      have e1 : s.take (((p.length : Int)).toNat + 0) = p := by rw [h1]; simp
      have e2 : s.drop (((p.length : Int)).toNat + [c].length) = r := by
        rw [h1]; simp
      have e3 : s.drop (p.length + [c].length) = r := by rw [h1]; simp
      rw [e1, e2, e3, h1, partL_front c p h2]
      cases n with
      | zero => rw [h1] at hn; simp at hn
      | succ n => rw [splitK_part c n r (by rw [h1] at hn; simp at hn; omega)]
theorem split_part (c : UInt8) (s : ByteArray) : (Lib.splitB ⟨#[c]⟩ 0 (Lib.countB s ⟨#[c]⟩) s).map (·.data.toList) = partL c s.data.toList := by
  rw [Lib.splitB_data]; exact splitK_part c _ _ (Nat.le_refl _)
/-- What stands ahead of the first byte c. -/
def aheadL (c : UInt8) (l : List UInt8) : List UInt8 := l.takeWhile (fun b => decide (b ≠ c))
theorem ahead_hit (c : UInt8) (r : List UInt8) : aheadL c (c :: r) = [] := by simp [aheadL]
theorem ahead_miss {b c : UInt8} (h : b ≠ c) (r : List UInt8) : aheadL c (b :: r) = b :: aheadL c r := by simp [aheadL, h]
theorem ahead_all (c : UInt8) : ∀ {p : List UInt8}, c ∉ p → aheadL c p = p
  | [], _ => rfl
  | b :: p, h => by
    rw [List.mem_cons, not_or] at h
    rw [ahead_miss (fun e => h.1 e.symm), ahead_all c h.2]
theorem ahead_front (c : UInt8) : ∀ {p : List UInt8}, c ∉ p → ∀ r, aheadL c (p ++ c :: r) = p
  | [], _, r => ahead_hit c r
  | b :: p, h, r => by
    rw [List.mem_cons, not_or] at h
    rw [List.cons_append, ahead_miss (fun e => h.1 e.symm), ahead_front c h.2]
theorem cut_ahead (c : UInt8) (s : List UInt8) : (Lib.cut s [c]).1 = aheadL c s := by
  unfold Lib.cut
  rcases index_cases s c with ⟨h1, h2⟩ | ⟨p, r, h1, h2, h3⟩
  · rw [if_neg (by rw [h1]; decide), ahead_all c h2]
  · rw [if_pos (by rw [h3]; omega), h3, h1, ahead_front c h2]; simp
/-- Words, one behind the other; cur: what was read of one. -/
def flushL (cur : List UInt8) (t : List (List UInt8)) : List (List UInt8) := if cur = [] then t else cur :: t
def wordsG (cur : List UInt8) : List UInt8 → List (List UInt8)
  | [] => flushL cur []
  | b :: r => if b = 32 then flushL cur (wordsG [] r) else wordsG (cur ++ [b]) r
def wordsL (l : List UInt8) : List (List UInt8) := wordsG [] (aheadL 59 l)
theorem wordsG_many : ∀ (q : List UInt8), 32 ∉ q → ∀ (cur r : List UInt8), wordsG cur (q ++ r) = wordsG (cur ++ q) r
  | [], _, cur, r => by simp
  | b :: q, h, cur, r => by
    rw [List.mem_cons, not_or] at h
    rw [List.cons_append, wordsG, if_neg (fun e => h.1 e.symm), wordsG_many q h.2, List.append_assoc]; rfl
theorem wordsG_nonempty : ∀ (l cur : List UInt8), ∀ x ∈ wordsG cur l, x ≠ [] ∧ x.length ≤ cur.length + l.length
  | [], cur, x, hx => by
    unfold wordsG flushL at hx
    by_cases h : cur = []
    · rw [if_pos h] at hx; cases hx
    · rw [if_neg h] at hx
      simp at hx; subst hx; exact ⟨h, by simp⟩
  | b :: r, cur, x, hx => by
    unfold wordsG at hx
    by_cases hb : b = 32
    · rw [if_pos hb] at hx
      unfold flushL at hx
      by_cases h : cur = []
      · rw [if_pos h] at hx
        have := wordsG_nonempty r [] x hx
        exact ⟨this.1, by have := this.2; simp at this ⊢; omega⟩
      · rw [if_neg h] at hx
        rcases List.mem_cons.1 hx with rfl | hx
        · exact ⟨h, by simp⟩
        · have := wordsG_nonempty r [] x hx
          exact ⟨this.1, by have := this.2; simp at this ⊢; omega⟩
    · rw [if_neg hb] at hx
      have := wordsG_nonempty r (cur ++ [b]) x hx
      exact ⟨this.1, by have := this.2; simp at this ⊢; omega⟩
theorem aheadL_len (c : UInt8) (l : List UInt8) : (aheadL c l).length ≤ l.length := by
  unfold aheadL; exact (List.takeWhile_sublist _).length_le
theorem wordsL_nonempty {l x : List UInt8} (hx : x ∈ wordsL l) : x ≠ [] ∧ x.length ≤ l.length := by
  have := wordsG_nonempty _ _ x hx
  have h2 := aheadL_len 59 l
  exact ⟨this.1, by have := this.2; simp at this; omega⟩
theorem decN_bytes (n b0 b1 b2 b3 : Nat) (h : 0 < n) : (b0 = 32 ∧ Lib.decodeN n b0 b1 b2 b3 = (32, 1)) ∨
    ((Lib.decodeN n b0 b1 b2 b3).1 ≠ 32 ∧ 0 < (Lib.decodeN n b0 b1 b2 b3).2 ∧ (Lib.decodeN n b0 b1 b2 b3).2 ≤ n ∧ (Lib.decodeN n b0 b1 b2 b3).2 ≤ 4 ∧ b0 ≠ 32 ∧ (1 < (Lib.decodeN n b0 b1 b2 b3).2 → b1 ≠ 32) ∧ (2 < (Lib.decodeN n b0 b1 b2 b3).2 → b2 ≠ 32) ∧ (3 < (Lib.decodeN n b0 b1 b2 b3).2 → b3 ≠ 32)) := by
  have one : ∀ c : Nat, c ≠ 32 → b0 ≠ 32 → ((c, 1).1 ≠ 32 ∧ 0 < (c, 1).2 ∧ (c, 1).2 ≤ n ∧ (c, 1).2 ≤ 4 ∧ b0 ≠ 32 ∧ (1 < (c, 1).2 → b1 ≠ 32) ∧ (2 < (c, 1).2 → b2 ≠ 32) ∧ (3 < (c, 1).2 → b3 ≠ 32)) := fun c hc hb => ⟨hc, by show 0 < 1; omega, by show 1 ≤ n; omega, by show 1 ≤ 4; omega, hb, fun h => absurd h (by show ¬ 1 < 1; omega), fun h => absurd h (by show ¬ 2 < 1; omega), fun h => absurd h (by show ¬ 3 < 1; omega)⟩
  unfold Lib.decodeN
  by_cases c0 : b0 < 128
  · rw [if_pos c0]
    by_cases e : b0 = 32
    · left; rw [e]; exact ⟨rfl, rfl⟩
    · right; exact one b0 e e
  rw [if_neg c0]
  have hb : b0 ≠ 32 := by omega
  have err := one 65533 (by decide) hb
  right
  split
  · rename_i hc
    split
    · exact ⟨by show _ ≠ _; omega, by show 0 < 2; omega, by show 2 ≤ n; omega, by show 2 ≤ 4; omega, hb, fun _ => by omega, fun h => absurd h (by show ¬ 2 < 2; omega), fun h => absurd h (by show ¬ 3 < 2; omega)⟩
    · exact err
  split
  · rename_i hc
    split
    · exact ⟨by show _ ≠ _; omega, by show 0 < 3; omega, by show 3 ≤ n; omega, by show 3 ≤ 4; omega, hb, fun _ => by omega, fun _ => by omega, fun h => absurd h (by show ¬ 3 < 3; omega)⟩
    · exact err
  split
  · rename_i hc
    split
    · exact ⟨by show _ ≠ _; omega, by show 0 < 4; omega, by show 4 ≤ n; omega, by show 4 ≤ 4; omega, hb, fun _ => by omega, fun _ => by omega, fun _ => by omega⟩
    · exact err
  · exact err
theorem get_list (s : ByteArray) (k : Nat) (h : k < s.size) : s.data.toList[k]? = some (s.get! k) := by
  have hl : s.data.toList.length = s.size := by rw [Array.length_toList]; rfl
  rw [List.getElem?_eq_getElem (by omega)]
  congr 1
  simp [ByteArray.get!]
  rw [getElem!_pos s.data k h]
theorem decode_bytes (s : ByteArray) (pos : Nat) (h : pos < s.size) : ((∃ r, s.data.toList.drop pos = 32 :: r) ∧ Utf8.decode s pos = (32, 1)) ∨
    ((Utf8.decode s pos).1 ≠ 32 ∧ 0 < (Utf8.decode s pos).2 ∧ pos + (Utf8.decode s pos).2 ≤ s.size ∧ 32 ∉ (s.data.toList.drop pos).take (Utf8.decode s pos).2) := by
  have hl : s.data.toList.length = s.size := by rw [Array.length_toList]; rfl
  rw [Lib.decode_at]
  rcases decN_bytes (s.size - pos) (s.get! pos).toNat (s.get! (pos + 1)).toNat (s.get! (pos + 2)).toNat (s.get! (pos + 3)).toNat (by omega) with ⟨h1, h2⟩ | ⟨h1, h2, h3, h4, g0, g1, g2, g3⟩
  · left
    refine ⟨⟨s.data.toList.drop (pos + 1), ?_⟩, h2⟩
    have e := get_list s pos h
    rw [List.drop_eq_getElem_cons (by omega)]
    congr 1
    rw [List.getElem?_eq_getElem (by omega)] at e
    rw [Option.some.inj e]
    exact UInt8.toNat_inj.1 h1
  · right
    refine ⟨h1, h2, by omega, fun hm => ?_⟩
    generalize (Lib.decodeN (s.size - pos) (s.get! pos).toNat (s.get! (pos + 1)).toNat (s.get! (pos + 2)).toNat (s.get! (pos + 3)).toNat).2 = k at *
    obtain ⟨j, hj, he⟩ := List.mem_iff_getElem.1 hm
    rw [List.length_take, List.length_drop] at hj
    rw [List.getElem_take, List.getElem_drop] at he
    have e := get_list s (pos + j) (by omega)
    rw [List.getElem?_eq_getElem (by omega), he] at e
    have e' := Option.some.inj e
    have hq : (s.get! (pos + j)).toNat = 32 := by rw [← e']; rfl
    have : j = 0 ∨ j = 1 ∨ j = 2 ∨ j = 3 := by omega
    rcases this with rfl | rfl | rfl | rfl
    · exact g0 hq
    · exact g1 (by omega) hq
    · exact g2 (by omega) hq
    · exact g3 (by omega) hq
/-- The bytes of a word that began at st. -/
def curL (s : ByteArray) (st : Option Nat) (pos : Nat) : List UInt8 := match st with | none => [] | some a => (s.data.toList.drop a).take (pos - a)
theorem ext_cur (s : ByteArray) (a b : Nat) : (s.extract a b).data.toList = curL s (some a) b := by
  rw [Lib.extract_data]; rfl
def isSp (c : Nat) : Bool := decide (c = 32)
def outL (s : ByteArray) (x : List (Nat × Nat)) : List (List UInt8) := x.map fun p => (s.extract p.1 p.2).data.toList
theorem cur_ne {s : ByteArray} {a pos : Nat} (h : a < pos) (hp : pos ≤ s.size) : curL s (some a) pos ≠ [] := by
  have hl : s.data.toList.length = s.size := by rw [Array.length_toList]; rfl
  intro e
  have := congrArg List.length e
  unfold curL at this
  rw [List.length_take, List.length_drop, List.length_nil] at this
  omega
theorem cur_more {s : ByteArray} {st : Option Nat} {pos k : Nat} (h : st = none ∨ ∃ a, st = some a ∧ a < pos) : curL s (some (st.getD pos)) (pos + k) = curL s st pos ++ (s.data.toList.drop pos).take k := by
  rcases h with rfl | ⟨a, rfl, ha⟩
  · show (s.data.toList.drop pos).take (pos + k - pos) = [] ++ _
    rw [List.nil_append, Nat.add_sub_cancel_left]
  · show (s.data.toList.drop a).take (pos + k - a) = (s.data.toList.drop a).take (pos - a) ++ _
    rw [show pos + k - a = (pos - a) + k by omega, List.take_add, List.drop_drop, show a + (pos - a) = pos by omega]
theorem spans_words (s : ByteArray) : ∀ (f pos : Nat) (st : Option Nat) (acc : List (Nat × Nat)), s.size - pos ≤ f → pos ≤ s.size → (st = none ∨ ∃ a, st = some a ∧ a < pos) →
    outL s (Lib.closeSpans s (Lib.spansFromP isSp s f pos st acc)) = outL s acc ++ wordsG (curL s st pos) (s.data.toList.drop pos) := by
  have hl : s.data.toList.length = s.size := by rw [Array.length_toList]; rfl
  have fin : ∀ (f pos : Nat) (st : Option Nat) (acc : List (Nat × Nat)), ¬ pos < s.size → pos ≤ s.size → (st = none ∨ ∃ a, st = some a ∧ a < pos) → outL s (Lib.closeSpans s (Lib.spansFromP isSp s f pos st acc)) = outL s acc ++ wordsG (curL s st pos) (s.data.toList.drop pos) := by
    intro f pos st acc h hp hst
    obtain rfl : pos = s.size := by omega
    rw [Lib.spansFromP_end _ _ _ _ _ _ h, List.drop_of_length_le (by omega)]
    rcases hst with rfl | ⟨a, rfl, ha⟩
    · show outL s acc = outL s acc ++ []
      rw [List.append_nil]
    · show outL s (acc ++ [(a, s.size)]) = outL s acc ++ flushL _ []
      unfold flushL
      rw [if_neg (cur_ne ha (Nat.le_refl _))]
      unfold outL; rw [List.map_append, List.map_cons, List.map_nil, ext_cur]
  intro f
  induction f with
  | zero => intro pos st acc hf hp hst; exact fin 0 pos st acc (by omega) hp hst
  | succ f ih =>
    intro pos st acc hf hp hst
    by_cases hlt : pos < s.size
    case neg => exact fin (f + 1) pos st acc hlt hp hst
    unfold Lib.spansFromP
    rw [if_pos hlt]
    rcases decode_bytes s pos hlt with ⟨⟨r, hr⟩, hd⟩ | ⟨h1, h2, h3, h4⟩
    · rw [hd]
      have hi : isSp (32, 1).1 = true := rfl
      rw [if_pos hi]
      have hr' : s.data.toList.drop (pos + 1) = r := by
        rw [← List.drop_drop, hr]; rfl
      rw [hr]
      rcases hst with rfl | ⟨a, rfl, ha⟩
      · show outL s (Lib.closeSpans s (Lib.spansFromP isSp s f (pos + 1) none acc)) = _
        rw [ih (pos + 1) none acc (by omega) (by omega) (.inl rfl), hr']
        rfl
      · show outL s (Lib.closeSpans s (Lib.spansFromP isSp s f (pos + 1) none (acc ++ [(a, pos)]))) = _
        rw [ih (pos + 1) none _ (by omega) (by omega) (.inl rfl), hr']
        rw [show wordsG (curL s (some a) pos) (32 :: r) = flushL (curL s (some a) pos) (wordsG [] r) from by rw [wordsG, if_pos rfl]]
        unfold flushL
        rw [if_neg (cur_ne ha (by omega))]
        unfold outL
        rw [List.map_append, List.map_cons, List.map_nil, ext_cur, List.append_assoc]
        rfl
    · have hi : ¬ isSp (Utf8.decode s pos).1 = true := by unfold isSp; rw [decide_eq_true_eq]; exact h1
      rw [if_neg hi]
      generalize (Utf8.decode s pos).2 = k at *
      have hst2 : st = none ∨ ∃ a, st = some a ∧ a < pos := hst
      have hs : outL s (Lib.closeSpans s (Lib.spansFromP isSp s f (pos + k) (some (st.getD pos)) acc)) = outL s acc ++ wordsG (curL s st pos) (s.data.toList.drop pos) := ?_
      · cases st <;> exact hs
      rw [ih (pos + k) _ acc (by omega) (by omega) (.inr ⟨_, rfl, by rcases hst with rfl | ⟨a, rfl, ha⟩ <;> simp <;> omega⟩), cur_more hst]
      congr 1
      conv => rhs; rw [← List.take_append_drop k (s.data.toList.drop pos), List.drop_drop]
      rw [wordsG_many _ h4]
theorem fields_words (s : ByteArray) : (Lib.goFieldsP isSp s).map (·.data.toList) = wordsG [] s.data.toList := by
  have := spans_words s s.size 0 none [] (by omega) (by omega) (.inl rfl)
  rw [show outL s [] = [] from rfl, List.nil_append] at this
  rw [show curL s none 0 = [] from rfl, List.drop_zero] at this
  rw [← this]
  unfold Lib.goFieldsP Lib.spansOfP outL
  rw [List.map_map]; rfl
/-- A text's lines, each one's words. -/
theorem line_words (s : ByteArray) : (Lib.goFieldsP isSp ⟨(Lib.cut s.data.toList [59]).1.toArray⟩).map (·.data.toList) = wordsL s.data.toList := by
  rw [fields_words, cut_ahead]; rfl
end Go.Proofs.YtdlpgoackmgdkaaGreatDoor
/- Plain: what a text is parsed as. -/
namespace Go.Proofs.YtdlpgoackmgdkaaGreatDoor
set_option linter.unusedVariables false
set_option linter.unusedSimpArgs false
def bytesOf (l : List UInt8) : ByteArray := ⟨l.toArray⟩
theorem bytesOf_data (l : List UInt8) : (bytesOf l).data.toList = l := by simp [bytesOf]
theorem bytesOf_of (s : ByteArray) : bytesOf s.data.toList = s := by obtain ⟨⟨l⟩⟩ := s; rfl
def wordsB (l : List UInt8) : List ByteArray := (wordsL l).map bytesOf
theorem wordsB_len (l : List UInt8) : (wordsB l).length = (wordsL l).length := by simp [wordsB]
theorem map_bytes {bs : List ByteArray} {ls : List (List UInt8)} (h : bs.map (·.data.toList) = ls) : bs = ls.map bytesOf := by
  rw [← h, List.map_map]
  conv => lhs; rw [← List.map_id bs]
  apply List.map_congr_left
  intro b _
  exact (bytesOf_of b).symm
def parseG : Nat → List AL → List (List UInt8) → List AL × Nat × Nat
  | _, acc, [] => (acc, 0, 0)
  | n, acc, l :: ls =>
    if wordsL l = [] then parseG (n + 1) acc ls else
    if (lineS (wordsB l)).1 ≠ 0 then ([], n + 1, (lineS (wordsB l)).1) else
    if acc.length = 16384 then ([], n + 1, 3) else parseG (n + 1) (acc ++ [(lineS (wordsB l)).2]) ls
def parseS (l : List UInt8) : List AL × Nat × Nat := if 524288 < l.length then ([], 0, 3) else parseG 0 [] (partL 10 l)
theorem parseG_blank {n : Nat} {acc : List AL} {l : List UInt8} {ls : List (List UInt8)} (h : wordsL l = []) : parseG n acc (l :: ls) = parseG (n + 1) acc ls := by rw [parseG, if_pos h]
theorem parseG_bad {n : Nat} {acc : List AL} {l : List UInt8} {ls : List (List UInt8)} (h : wordsL l ≠ []) (he : (lineS (wordsB l)).1 ≠ 0) : parseG n acc (l :: ls) = ([], n + 1, (lineS (wordsB l)).1) := by rw [parseG, if_neg h, if_pos he]
theorem parseG_long {n : Nat} {acc : List AL} {l : List UInt8} {ls : List (List UInt8)} (h : wordsL l ≠ []) (he : (lineS (wordsB l)).1 = 0) (ha : acc.length = 16384) : parseG n acc (l :: ls) = ([], n + 1, 3) := by rw [parseG, if_neg h, if_neg (not_not_intro he), if_pos ha]
theorem parseG_line {n : Nat} {acc : List AL} {l : List UInt8} {ls : List (List UInt8)} (h : wordsL l ≠ []) (he : (lineS (wordsB l)).1 = 0) (ha : acc.length ≠ 16384) : parseG n acc (l :: ls) = parseG (n + 1) (acc ++ [(lineS (wordsB l)).2]) ls := by rw [parseG, if_neg h, if_neg (not_not_intro he), if_neg ha]
/-- The words' sizes. -/
theorem wordsB_size {l : List UInt8} (i : Nat) (h : i < (wordsB l).length) : 0 < ((wordsB l).getD i eS).size ∧ ((wordsB l).getD i eS).size ≤ l.length := by
  have hm : (wordsB l).getD i eS ∈ wordsB l := by
    rw [List.getD_eq_getElem?_getD, List.getElem?_eq_getElem h]; exact List.getElem_mem h
  obtain ⟨x, hx, he⟩ := List.mem_map.1 hm
  have := wordsL_nonempty hx
  rw [← he]
  have hs : (bytesOf x).size = x.length := by show x.toArray.size = _; simp
  rw [hs]
  exact ⟨List.length_pos_iff.2 this.1, this.2⟩
end Go.Proofs.YtdlpgoackmgdkaaGreatDoor
/- The document's Words. -/
namespace Go.Proofs.YtdlpgoackmgdkaaGreatDoor
open Go.Shelf Go.RowKit Go.WideMaps Go.Maps
set_option linter.unusedVariables false
set_option linter.unusedSimpArgs false
/-- A result that is a row of strings of the call's own. -/
structure OutW (base : Nat) (w' : World) (ws : List ByteArray) (e : Ending) : Prop where
  at_ : ∃ v, e = .returned v ∧ w'.ownsRow base 9 1 v ws.length (ws.map Value.string)
end Go.Proofs.YtdlpgoackmgdkaaGreatDoor
/- The document's Parse. -/
namespace Go.Proofs.YtdlpgoackmgdkaaGreatDoor
open Go.Shelf Go.RowKit Go.WideMaps Go.Maps
set_option linter.unusedVariables false
set_option linter.unusedSimpArgs false
structure OutA (base : Nat) (w' : World) (r : List AL × Nat × Nat) (e : Ending) : Prop where
  at_ : ∃ v, e = .returned (.tuple #[v, .int .i64 ((r.2.1 : Nat) : Int), .int .i64 ((r.2.2 : Nat) : Int)]) ∧ w'.ownsRow base 156 6 v r.1.length (alVs r.1)
theorem OutA.none (base : Nat) (w' : World) (k e : Nat) : OutA base w' ([], k, e) (.returned (.tuple #[.slice none 0 0, .int .i64 (k : Int), .int .i64 (e : Int)])) := ⟨_, rfl, World.ownsRow_nil _ _ _ _⟩
theorem OutA.low {b b' : Nat} {w' : World} {r : List AL × Nat × Nat} {e : Ending} (h : OutA b w' r e) (hb : b' ≤ b) : OutA b' w' r e := by
  obtain ⟨v, h1, h2, h3⟩ := h
  refine ⟨v, h1, h2, ?_⟩
  rcases h3 with h | ⟨g, cap, cur, hv, hg, h⟩
  · exact .inl h
  · exact .inr ⟨g, cap, cur, hv, Nat.le_trans hb hg, h⟩
theorem six_news (w : World) (x y z u v s : Value) (t : TypeId) : ∀ j r, [x, y, z, u, v, s][j]? = some r → (w.alloc (.cells #[x, y, z, u, v, s] t)).cell? ((⟨w.heap.size, 0, none⟩ : Addr).add j) = some r := by
  intro j r hj
  rw [Go.WideShapes.add_plain, Nat.zero_add]
  match j, hj with
  | 0, hj => exact cell_row (heap_alloc_new _ _) hj
  | 1, hj => exact cell_row (heap_alloc_new _ _) hj
  | 2, hj => exact cell_row (heap_alloc_new _ _) hj
  | 3, hj => exact cell_row (heap_alloc_new _ _) hj
  | 4, hj => exact cell_row (heap_alloc_new _ _) hj
  | 5, hj => exact cell_row (heap_alloc_new _ _) hj
  | n + 6, hj => simp at hj
theorem alVs_snoc (l : List AL) (x : AL) : alVs l ++ [.string x.lab, .int .u8 (x.i.op : Int), .int .u8 (x.i.a : Int), .int .u16 (x.i.b : Int), .int .u32 (x.i.c : Int), .string x.tgt] = alVs (l ++ [x]) := by simp [alVs, alC]
/-- A row of words as line and One take it. -/
theorem strs_of_own {w : World} {base : Nat} {v : Value} {ws : List ByteArray} (h : w.ownsRow base 9 1 v ws.length (ws.map Value.string)) : ∃ a c, v = .slice a ws.length c ∧ ws.length ≤ c ∧ c ≤ maxLen ∧ SliceAt w a ws.length (strV ws) := by
  rcases h.2 with ⟨rfl, h0⟩ | ⟨g, cap, cur, rfl, hb, hg, hn, hm, hs, htk⟩
  · exact ⟨none, 0, by rw [h0], by omega, by unfold maxLen; omega, .inl h0⟩
  · refine ⟨_, cap, rfl, hn, hm, .inr ⟨g, 0, rfl, heap_lt hg, fun i hi => ?_⟩⟩
    rw [Nat.zero_add]
    refine cell_row hg ?_
    have e : (ws.map Value.string)[i]? = some (strV ws i) := by
      unfold strV
      rw [List.getElem?_map, List.getElem?_eq_getElem hi, List.getD_eq_getElem?_getD, List.getElem?_eq_getElem hi]; rfl
    rw [← htk, List.getElem?_take, if_pos (by omega)] at e
    simpa using e
theorem own_below {w w' : World} {B : Nat} {e : TypeId} {size : Nat} {v : Value} {n : Nat} {xs : List Value} (h : w.ownsRow B e size v n xs) (hb : Below w.heap.size w w') : w'.ownsRow B e size v n xs :=
  own_same h fun g hg => hb.block g (h.lt g hg).2
end Go.Proofs.YtdlpgoackmgdkaaGreatDoor
/- Plain: what line makes of its words is what lineS tells. -/
namespace Go.Proofs.YtdlpgoackmgdkaaGreatDoor
set_option linter.unusedVariables false
set_option linter.unusedSimpArgs false
theorem opR_z (l : List UInt8) : (((opR l).1 = 17 ∨ (opR l).1 = 18) ∧ ((opR l).2 = 1 ∨ (opR l).2 = 2 ∨ (opR l).2 = 4)) ∨ ((opR l).1 ≠ 17 ∧ (opR l).1 ≠ 18 ∧ (opR l).2 = 0) := by
  unfold opR
  split
  · left; decide
  split
  · left; decide
  split
  · left; decide
  split
  · left; decide
  split
  · left; decide
  split
  · left; decide
  split
  · right; decide
  rename_i h
  right
  refine ⟨fun e => h (.inl (opL_inv e (by decide)).1), fun e => h (.inr (opL_inv e (by decide)).1), rfl⟩
def okV (s : ByteArray) (most : Nat) (ob : Bool) : Bool := ob && (match numL s.data.toList with | some n => decide (n ≤ most) | none => false)
theorem okV_none {s : ByteArray} {most : Nat} {ob : Bool} (h : numL s.data.toList = none) : okV s most ob = false := by unfold okV; rw [h]; simp
theorem okV_some {s : ByteArray} {most n : Nat} {ob : Bool} (h : numL s.data.toList = some n) : okV s most ob = (ob && decide (n ≤ most)) := by unfold okV; rw [h]
structure Leaf (lab : ByteArray) (o z : Nat) (vs : List ByteArray) (ob : Bool) (y : AL) : Prop where
  yes : ob = true → y.may = true → opS lab o z vs = (0, y)
  no : (ob && y.may) = false → (opS lab o z vs).1 = 42
  ok : y.ok
theorem alm_of {lab tgt : ByteArray} {o a b c : Nat} (hlab : lab.toList.isEmpty = true ∨ labelB lab = true) : (⟨lab, ⟨o, a, b, c⟩, tgt⟩ : AL).may = (mayI o a b c && (tgt.toList.isEmpty || labelB tgt && jumpB o && decide (c = 0))) := by
  show ((lab.toList.isEmpty || labelB lab) && mayI o a b c && _) = _
  rw [show (lab.toList.isEmpty || labelB lab) = true by rw [Bool.or_eq_true]; exact hlab, Bool.true_and]
theorem may_plain {lab : ByteArray} {o a b c : Nat} (hlab : lab.toList.isEmpty = true ∨ labelB lab = true) : (⟨lab, ⟨o, a, b, c⟩, eS⟩ : AL).may = mayI o a b c := by
  rw [alm_of hlab]
  rw [show (eS.toList.isEmpty || labelB eS && jumpB o && decide (c = 0)) = true by rw [show eS.toList.isEmpty = true by rw [ByteArray.toList_eq]; rfl]; rfl, Bool.and_true]
theorem ok_of {lab tgt : ByteArray} {o a b c : Nat} (h1 : lab.size ≤ 1000000) (h2 : tgt.size ≤ 1000000) (ho : o < 28) (ha : a < 256) (hb : b < 65536) (hc : c < 4294967296) : (⟨lab, ⟨o, a, b, c⟩, tgt⟩ : AL).ok := ⟨⟨by show o < 256; omega, ha, hb, hc⟩, by show lab.size ≤ _; omega, by show tgt.size ≤ _; omega⟩
theorem eS_size : eS.size ≤ 1000000 := by show (0 : Nat) ≤ _; omega
set_option maxRecDepth 100000 in
theorem leaf0 {lab : ByteArray} {o : Nat} {vs : List ByteArray} (hlab : lab.toList.isEmpty = true ∨ labelB lab = true) (hs : lab.size ≤ 1000000) (h0 : o ≠ 0) (ho : o < 28) (hw : wordsN o = 0) (hl : vs.length = 0) : Leaf lab o 0 vs true ⟨lab, ⟨o, 0, 0, 0⟩, eS⟩ := by
  have hm : (⟨lab, ⟨o, 0, 0, 0⟩, eS⟩ : AL).may = true := by
    rw [may_plain hlab]
    have : ∀ o, o < 28 → o ≠ 0 → wordsN o = 0 → mayI o 0 0 0 = true := by decide
    exact this o ho h0 hw
  exact ⟨fun _ _ => opS_0 h0 hw hl, fun h => absurd h (by rw [hm]; decide), ok_of hs eS_size ho (by omega) (by omega) (by omega)⟩
theorem leafJ {lab v0 : ByteArray} {o : Nat} {vs : List ByteArray} (hlab : lab.toList.isEmpty = true ∨ labelB lab = true) (hs : lab.size ≤ 1000000) (ho : o = 19 ∨ o = 20) (hl : vs.length = 1) (hv : vs.getD 0 eS = v0) (hj : labelB v0 = true) (hs0 : v0.size ≤ 1000000) : Leaf lab o 0 vs true ⟨lab, ⟨o, 0, 0, 0⟩, v0⟩ := by
  have h1 : jumpB o = true := by rcases ho with rfl | rfl <;> rfl
  have hm : (⟨lab, ⟨o, 0, 0, 0⟩, v0⟩ : AL).may = true := by
    rw [alm_of hlab, hj, h1]
    have : mayI o 0 0 0 = true := by rcases ho with rfl | rfl <;> rfl
    rw [this]; simp
  have he : opS lab o 0 vs = (0, ⟨lab, ⟨o, 0, 0, 0⟩, v0⟩) := by
    rw [opS_arg (by rcases ho with rfl | rfl <;> decide) (by rcases ho with rfl | rfl <;> decide) (by rw [hl]; rcases ho with rfl | rfl <;> rfl), hv]
    unfold argS
    rw [h1, hj]; rfl
  exact ⟨fun _ _ => he, fun h => absurd h (by rw [hm]; decide), ok_of hs hs0 (by rcases ho with rfl | rfl <;> decide) (by omega) (by omega) (by omega)⟩
theorem leafW {lab v0 : ByteArray} {o z v : Nat} {vs : List ByteArray} (hlab : lab.toList.isEmpty = true ∨ labelB lab = true) (hs : lab.size ≤ 1000000) (ho : (o = 1 ∨ o = 19 ∨ o = 20) ∧ z = 0 ∨ (o = 17 ∨ o = 18) ∧ (z = 1 ∨ z = 2 ∨ z = 4)) (hl : vs.length = 1) (hv : vs.getD 0 eS = v0) (hj : (jumpB o && labelB v0) = false) (hvn : v < 4294967296) (hn : ∀ n, numL v0.data.toList = some n → v = n) : Leaf lab o z vs (okV v0 4294967295 true) ⟨lab, ⟨o, z, 0, v⟩, eS⟩ := by
  have hm : (⟨lab, ⟨o, z, 0, v⟩, eS⟩ : AL).may = true := by
    rw [may_plain hlab]
    rcases ho with ⟨rfl | rfl | rfl, rfl⟩ | ⟨rfl | rfl, rfl | rfl | rfl⟩ <;> rfl
  have he : opS lab o z vs = (match numL v0.data.toList with | some c => (0, ⟨lab, ⟨o, z, 0, c⟩, eS⟩) | none => (42, al0)) := by
    rw [opS_arg (by omega) (by rcases ho with ⟨rfl | rfl | rfl, rfl⟩ | ⟨rfl | rfl, _⟩ <;> decide) (by rw [hl]; rcases ho with ⟨rfl | rfl | rfl, rfl⟩ | ⟨rfl | rfl, _⟩ <;> rfl), hv]
    unfold argS
    rw [hj, if_neg (by decide), if_pos (by omega)]
    cases numL v0.data.toList <;> rfl
  refine ⟨fun h _ => ?_, fun h => ?_, ok_of hs eS_size (by omega) (by omega) (by omega) hvn⟩
  · rw [he]
    cases hx : numL v0.data.toList with
    | none => rw [okV_none hx] at h; cases h
    | some n => rw [← hn n hx]
  · rw [hm, Bool.and_true] at h
    rw [he]
    cases hx : numL v0.data.toList with
    | none => rfl
    | some n =>
      rw [okV_some hx, Bool.true_and, decide_eq_false_iff_not] at h
      have := hn n hx
      omega
theorem leafS {lab v0 : ByteArray} {o v : Nat} {vs : List ByteArray} (hlab : lab.toList.isEmpty = true ∨ labelB lab = true) (hs : lab.size ≤ 1000000) (ho : o = 21 ∨ o = 22 ∨ o = 24 ∨ o = 26) (hl : vs.length = 1) (hv : vs.getD 0 eS = v0) (hn : ∀ n, numL v0.data.toList = some n → v = n) : Leaf lab o 0 vs (okV v0 255 true) ⟨lab, ⟨o, v % 256, 0, 0⟩, eS⟩ := by
  have hm : (⟨lab, ⟨o, v % 256, 0, 0⟩, eS⟩ : AL).may = decide (v % 256 < 16) := by
    rw [may_plain hlab]
    rcases ho with rfl | rfl | rfl | rfl <;> rfl
  have he : opS lab o 0 vs = (match numL v0.data.toList with | none => (42, al0) | some a => if 15 < a then (42, al0) else (0, ⟨lab, ⟨o, a, 0, 0⟩, eS⟩)) := by
    rw [opS_arg (by omega) (by rcases ho with rfl | rfl | rfl | rfl <;> decide) (by rw [hl]; rcases ho with rfl | rfl | rfl | rfl <;> rfl), hv]
    unfold argS
    rw [show jumpB o = false by rcases ho with rfl | rfl | rfl | rfl <;> rfl, Bool.false_and, if_neg (by decide), if_neg (by omega)]
    cases hx : numL v0.data.toList with
    | none => rfl
    | some n =>
      show (if 15 < n then _ else if wordsN o = 2 then _ else _) = (if 15 < n then _ else _)
      rw [if_neg (show ¬ wordsN o = 2 by rcases ho with rfl | rfl | rfl | rfl <;> decide)]
  refine ⟨fun h h2 => ?_, fun h => ?_, ok_of hs eS_size (by omega) (by omega) (by omega) (by omega)⟩
  · rw [he]
    cases hx : numL v0.data.toList with
    | none => rw [okV_none hx] at h; cases h
    | some n =>
      rw [okV_some hx, Bool.true_and, decide_eq_true_eq] at h
      rw [hm, decide_eq_true_eq] at h2
      have := hn n hx
      subst this
      show (if 15 < v then _ else _) = _
      rw [if_neg (by omega), Nat.mod_eq_of_lt (by omega)]
  · rw [hm] at h
    rw [he]
    cases hx : numL v0.data.toList with
    | none => rfl
    | some n =>
      rw [okV_some hx, Bool.true_and, ← Bool.decide_and, decide_eq_false_iff_not] at h
      have := hn n hx
      subst this
      show (if 15 < v then _ else _ : Nat × AL).1 = _
      rw [if_pos (by omega)]
theorem leaf2 {lab v0 v1 : ByteArray} {o v u : Nat} {vs : List ByteArray} (hlab : lab.toList.isEmpty = true ∨ labelB lab = true) (hs : lab.size ≤ 1000000) (ho : o = 23 ∨ o = 25) (hl : vs.length = 2) (hv : vs.getD 0 eS = v0) (hv1 : vs.getD 1 eS = v1) (hn : ∀ n, numL v0.data.toList = some n → v = n) (hu : ∀ n, numL v1.data.toList = some n → u = n) : Leaf lab o 0 vs (okV v1 65535 (okV v0 255 true)) ⟨lab, ⟨o, v % 256, u % 65536, 0⟩, eS⟩ := by
  have hm : (⟨lab, ⟨o, v % 256, u % 65536, 0⟩, eS⟩ : AL).may = (decide (u % 65536 < 16) && decide (v % 256 < 16)) := by
    rw [may_plain hlab]
    rcases ho with rfl | rfl <;> rfl
  have he : opS lab o 0 vs = (match numL v0.data.toList with | none => (42, al0) | some a => if 15 < a then (42, al0) else (match numL v1.data.toList with | some b => if 15 < b then (42, al0) else (0, ⟨lab, ⟨o, a, b, 0⟩, eS⟩) | none => (42, al0))) := by
    rw [opS_arg (by omega) (by rcases ho with rfl | rfl <;> decide) (by rw [hl]; rcases ho with rfl | rfl <;> rfl), hv, hv1]
    unfold argS
    rw [show jumpB o = false by rcases ho with rfl | rfl <;> rfl, Bool.false_and, if_neg (by decide), if_neg (by omega)]
    cases hx : numL v0.data.toList with
    | none => rfl
    | some n =>
      show (if 15 < n then _ else if wordsN o = 2 then _ else _) = (if 15 < n then _ else _)
      rw [if_pos (show wordsN o = 2 by rcases ho with rfl | rfl <;> decide)]
      cases numL v1.data.toList <;> rfl
  refine ⟨fun h h2 => ?_, fun h => ?_, ok_of hs eS_size (by omega) (by omega) (by omega) (by omega)⟩
  · rw [he]
    cases hx : numL v0.data.toList with
    | none =>
      rw [okV_none hx] at h
      unfold okV at h; simp at h
    | some n =>
      have := hn n hx
      subst this
      cases hy : numL v1.data.toList with
      | none => rw [okV_none hy] at h; cases h
      | some m =>
        have := hu m hy
        subst this
        rw [okV_some hy, okV_some hx, Bool.true_and, Bool.and_eq_true, decide_eq_true_eq, decide_eq_true_eq] at h
        rw [hm, Bool.and_eq_true, decide_eq_true_eq, decide_eq_true_eq] at h2
        show (if 15 < v then _ else if 15 < u then _ else _) = _
        rw [if_neg (by omega), if_neg (by omega), Nat.mod_eq_of_lt (by omega), Nat.mod_eq_of_lt (by omega)]
  · rw [hm] at h
    rw [he]
    cases hx : numL v0.data.toList with
    | none => rfl
    | some n =>
      have := hn n hx
      subst this
      by_cases h15 : 15 < v
      · show (if 15 < v then _ else _ : Nat × AL).1 = _
        rw [if_pos h15]
      cases hy : numL v1.data.toList with
      | none =>
        show (if 15 < v then _ else _ : Nat × AL).1 = _
        rw [if_neg h15]
      | some m =>
        have := hu m hy
        subst this
        rw [okV_some hy, okV_some hx, Bool.true_and, ← Bool.decide_and, ← Bool.decide_and, ← Bool.decide_and, decide_eq_false_iff_not] at h
        show (if 15 < v then _ else if 15 < u then _ else _ : Nat × AL).1 = _
        rw [if_neg h15, if_pos (by omega)]
end Go.Proofs.YtdlpgoackmgdkaaGreatDoor
/- line's closure; line. -/
namespace Go.Proofs.YtdlpgoackmgdkaaGreatDoor
open Go.Shelf Go.RowKit
set_option linter.unusedVariables false
set_option linter.unusedSimpArgs false
def LV (s : ByteArray) (most p : Nat) (ob : Bool) (w : World) (e : Ending) (w' : World) : Prop :=
  ∃ v : Nat, v < 4294967296 ∧ e = .returned (.int .u32 ((v : Nat) : Int)) ∧ (∀ n, numL s.data.toList = some n → v = n) ∧ w'.heap[p]? = some (.cells #[.bool (okV s most ob)] 4 (0, 0)) ∧ Below p w w'
set_option maxRecDepth 100000 in
set_option maxHeartbeats 1000000 in
theorem lval_any (s : ByteArray) (most p : Nat) (m : Int) (ob : Bool) (w : World) (hs : s.size ≤ 281474976710656) (hE : ErrW w) (hT : TabW w) (hp : w.heap[p]? = some (.cells #[.bool ob] 4 (0, 0))) (hm : m = (most : Int)) (hml : most < 4294967296) :
    Calls Tryz.prog 110 #[.string s, .int .u32 m, .pointer (some ⟨p, 0, none⟩)] w fun e w' => LV s most p ob w e w' := by
  subst hm
  have HP := Lib.hid hp
  have HN := Lib.hid (number_any s w hs hE hT)
  have hlt := heap_lt hp
  clear hp hE hT
  go_enter Tryz.func110, Tryz.ntmps110
  go_wp2_with fail
  refine HN.out.mono ?_
  rintro e w2 ⟨⟨v, hv, rfl, hn⟩, hb⟩
  have G2 := Lib.hid (kept HP.out hb)
  have B2 : Hid (Below p w w2) := hb.mono (Nat.le_of_lt hlt)
  have HNN := Lib.hid hn
  clear hb HN HP
  cases ob with
  | false =>
    have HOK : Hid (okV s most false = false) := rfl
    clear hn
    have hset : (w2.setCell ⟨p, 0, none⟩ (.bool false)).heap[p]? = some (.cells #[.bool false] 4 (0, 0)) := heap_setCell_same _ _ _ _ _ _ G2.out
    have hbel : Below p w (w2.setCell ⟨p, 0, none⟩ (.bool false)) := B2.out.setCell (p := ⟨p, 0, none⟩) (Nat.le_refl _) _
    have HSET := Lib.hid hset; have HBEL := Lib.hid hbel
    clear hset hbel
    have d0 := cell_row (j := 0) G2.out rfl
    have e0 : (w2).frozen? ⟨p, 0, none⟩ = false := frozen_of_row _ _ _ _ _ G2.out
    go_wp2_with fail
    go_ret
    exact ⟨v, hv, rfl, HNN.out, by rw [HOK.out]; exact HSET.out, HBEL.out⟩
  | true =>
    cases hx : numL s.data.toList with
    | none =>
      have HOK := Lib.hid (okV_none (most := most) (ob := true) hx)
      clear hn hx
      have hset : (w2.setCell ⟨p, 0, none⟩ (.bool false)).heap[p]? = some (.cells #[.bool false] 4 (0, 0)) := heap_setCell_same _ _ _ _ _ _ G2.out
      have hbel : Below p w (w2.setCell ⟨p, 0, none⟩ (.bool false)) := B2.out.setCell (p := ⟨p, 0, none⟩) (Nat.le_refl _) _
      have HSET := Lib.hid hset; have HBEL := Lib.hid hbel
      clear hset hbel
      have d0 := cell_row (j := 0) G2.out rfl
      have e0 : (w2).frozen? ⟨p, 0, none⟩ = false := frozen_of_row _ _ _ _ _ G2.out
      go_wp2_with fail
      go_ret
      exact ⟨v, hv, rfl, HNN.out, by rw [HOK.out]; exact HSET.out, HBEL.out⟩
    | some n =>
      obtain rfl := hn n hx
      clear hn
      have HOK := Lib.hid ((okV_some (most := most) (ob := true) hx).trans (Bool.true_and _))
      clear hx
      by_cases hle : v ≤ most
      · have t1 : decide ((v : Int) ≤ (most : Int)) = true := decide_eq_true (by omega)
        rw [decide_eq_true hle] at HOK
        have hset : (w2.setCell ⟨p, 0, none⟩ (.bool true)).heap[p]? = some (.cells #[.bool true] 4 (0, 0)) := heap_setCell_same _ _ _ _ _ _ G2.out
        have hbel : Below p w (w2.setCell ⟨p, 0, none⟩ (.bool true)) := B2.out.setCell (p := ⟨p, 0, none⟩) (Nat.le_refl _) _
        have HSET := Lib.hid hset; have HBEL := Lib.hid hbel
        clear hset hbel
        have d0 := cell_row (j := 0) G2.out rfl
        have e0 : (w2).frozen? ⟨p, 0, none⟩ = false := frozen_of_row _ _ _ _ _ G2.out
        go_wp2_with fail
        go_ret
        exact ⟨v, hv, rfl, HNN.out, by rw [HOK.out]; exact HSET.out, HBEL.out⟩
      · have t1 : decide ((v : Int) ≤ (most : Int)) = false := decide_eq_false (by omega)
        rw [decide_eq_false hle] at HOK
        have hset : (w2.setCell ⟨p, 0, none⟩ (.bool false)).heap[p]? = some (.cells #[.bool false] 4 (0, 0)) := heap_setCell_same _ _ _ _ _ _ G2.out
        have hbel : Below p w (w2.setCell ⟨p, 0, none⟩ (.bool false)) := B2.out.setCell (p := ⟨p, 0, none⟩) (Nat.le_refl _) _
        have HSET := Lib.hid hset; have HBEL := Lib.hid hbel
        clear hset hbel
        have d0 := cell_row (j := 0) G2.out rfl
        have e0 : (w2).frozen? ⟨p, 0, none⟩ = false := frozen_of_row _ _ _ _ _ G2.out
        go_wp2_with fail
        go_ret
        exact ⟨v, hv, rfl, HNN.out, by rw [HOK.out]; exact HSET.out, HBEL.out⟩
def OZ (o z : Nat) : Prop := (o = 1 ∨ o = 19 ∨ o = 20) ∧ z = 0 ∨ (o = 17 ∨ o = 18) ∧ (z = 1 ∨ z = 2 ∨ z = 4)
/-- What the switch leaves: the line, and whether its numbers are. -/
structure SwR (w : World) (g : Nat) (ws : List ByteArray) (W : World) (ob : Bool) (y : AL) : Prop where
  yes : ob = true → y.may = true → lineS ws = (0, y)
  no : (ob && y.may) = false → (lineS ws).1 = 42
  ok : y.ok
  gx : W.heap[g + 1]? = some (.cells #[.string y.lab, .int .u8 (y.i.op : Int), .int .u8 (y.i.a : Int), .int .u16 (y.i.b : Int), .int .u32 (y.i.c : Int), .string y.tgt] 156 (0, 0))
  gr : W.heap[g]? = some (.cells #[.string ⟨#[]⟩, .int .u8 0, .int .u8 0, .int .u16 0, .int .u32 0, .string ⟨#[]⟩] 156 (0, 0))
  b : Below g w W
theorem cutsuf_any (s : ByteArray) (w : World) (hs : s.size ≤ 9223372036854775807) : Calls Tryz.prog 106 #[.string s, .string ⟨#[58]⟩] w fun e w' => e = .returned (.tuple #[.string (stripB s), .bool (colonB s)]) ∧ w' = w :=
  Any.strings_CutSuffix Tryz.laysCSuf s ⟨#[58]⟩ w hs
set_option maxRecDepth 100000 in
set_option maxHeartbeats 40000000 in
theorem line_any (ws : List ByteArray) (a : Option Addr) (c : Nat) (w : World) (hA : SliceAt w a ws.length (strV ws)) (hn : 0 < ws.length) (hc : ws.length ≤ c) (hm : c ≤ maxLen) (hs : ∀ i, i < ws.length → 0 < (ws.getD i eS).size ∧ (ws.getD i eS).size ≤ 1000000) (hE : ErrW w) (hT : TabW w) :
    Calls Tryz.prog 90 #[.slice a ws.length c] w fun e w' => OutL (lineS ws) e ∧ Below w.heap.size w w' := by
  obtain ⟨b, off, rfl, hb, hcell⟩ := hA.at hn
  have c0 : w.cell? ⟨b, off, none⟩ = some (.string (ws.getD 0 eS)) := hcell 0 hn
  obtain ⟨hs1, hs2⟩ := hs 0 hn
  have HS := Lib.hid hs
  have HSL := Lib.hid hA
  have HE := Lib.hid hE
  have HT := Lib.hid hT
  clear hs hE hT
  generalize hf : ws.getD 0 eS = f0 at *
  have hnm : ws.length ≤ 9223372036854775807 := by unfold maxLen at hm; omega
  go_enter Tryz.func90, Tryz.ntmps90
  go_upto_region 2 with fail
  have GX0 : Hid (((w.alloc (.cells Z6 156)).alloc (.cells Z6 156)).heap[w.heap.size + 1]? = some (.cells Z6 156 (0, 0))) := by
    have := heap_alloc_new (w.alloc (.cells Z6 156)) (.cells Z6 156)
    show _ = _
    simpa using this
  have GR0 : Hid (((w.alloc (.cells Z6 156)).alloc (.cells Z6 156)).heap[w.heap.size]? = some (.cells Z6 156 (0, 0))) := ((alloc_below _ _).block _ (by simp)).trans (heap_alloc_new w _)
  have B0 : Hid (Below w.heap.size w ((w.alloc (.cells Z6 156)).alloc (.cells Z6 156))) := (alloc_below _ _).alloc (by simp) _
  unfold Z6 at GX0 GR0 B0
  generalize (w.alloc (.cells #[.string ⟨#[]⟩, .int .u8 0, .int .u8 0, .int .u16 0, .int .u32 0, .string ⟨#[]⟩] 156)).alloc (.cells #[.string ⟨#[]⟩, .int .u8 0, .int .u8 0, .int .u16 0, .int .u32 0, .string ⟨#[]⟩] 156) = w0 at *
  have c0 : w0.cell? ⟨b, off, none⟩ = some (.string f0) := (B0.out.cell hb).trans c0
  have HLS : lineS ws = if colonB f0 then (if labelB (stripB f0) then restS (stripB f0) ws.tail else (101, al0)) else restS eS ws := by unfold lineS; rw [hf]
  generalize hgw : w.heap.size = g at *
  have HG := Lib.hid hgw
  have HCS := Lib.hid (fun W => cutsuf_any f0 W (by omega))
  have LS : (stripB f0).size ≤ 1000000 := by
    have := trimSuffix_len f0.data.toList [58]
    unfold stripB
    rw [show (⟨(Lib.trimSuffix f0.data.toList [58]).toArray⟩ : ByteArray).size = (Lib.trimSuffix f0.data.toList [58]).length by show (List.toArray _).size = _; simp]
    rw [size_list] at this
    omega
  generalize stripB f0 = lab at *
  generalize hcb : colonB f0 = cb at *
  go_wp2_with fail
  refine (HCS.out w0).mono ?_
  rintro e w' ⟨rfl, hw⟩
  obtain rfl : w0 = w' := hw.symm
  clear HCS c0
  go_upto_if 18 with fail
  go_cut [0] from 11 to 118 (fun l W => ∃ (a' : Option Addr) (n' c' : Nat) (lb' : ByteArray) (vs : List ByteArray), l = .slice a' n' c' ∧ OneR w g ws W a' n' c' lb' vs)
  case first =>
    cases cb with
    | true =>
      rw [if_pos rfl] at HLS
      have x0 := cell_row (j := 0) GX0.out rfl
      have x1 := cell_row (j := 1) GX0.out rfl
      have x2 := cell_row (j := 2) GX0.out rfl
      have x3 := cell_row (j := 3) GX0.out rfl
      have x4 := cell_row (j := 4) GX0.out rfl
      have x5 := cell_row (j := 5) GX0.out rfl
      have y0 : (w0).frozen? ⟨g + 1, 0, none⟩ = false := frozen_of_row _ _ _ _ _ GX0.out
      have y1 : (w0).frozen? ⟨g + 1, 1, none⟩ = false := frozen_of_row _ _ _ _ _ GX0.out
      have y2 : (w0).frozen? ⟨g + 1, 2, none⟩ = false := frozen_of_row _ _ _ _ _ GX0.out
      have y3 : (w0).frozen? ⟨g + 1, 3, none⟩ = false := frozen_of_row _ _ _ _ _ GX0.out
      have y4 : (w0).frozen? ⟨g + 1, 4, none⟩ = false := frozen_of_row _ _ _ _ _ GX0.out
      have y5 : (w0).frozen? ⟨g + 1, 5, none⟩ = false := frozen_of_row _ _ _ _ _ GX0.out
      have HLB := Lib.hid (fun W => label_any lab W (by omega))
      go_wp2_with fail
      refine (HLB.out _).mono ?_
      rintro e w1 ⟨rfl, hb1⟩
      have GX1 := Lib.hid (kept GX0.out hb1)
      have GR1 := Lib.hid (kept GR0.out hb1)
      have B1 : Hid (Below g w w1) := B0.out.trans (hb1.mono (by have h := B0.out.size; omega))
      clear hb1 GX0 GR0 B0 x0 x1 x2 x3 x4 x5 y0 y1 y2 y3 y4 y5
      have x0 := cell_row (j := 0) GX1.out rfl
      have x1 := cell_row (j := 1) GX1.out rfl
      have x2 := cell_row (j := 2) GX1.out rfl
      have x3 := cell_row (j := 3) GX1.out rfl
      have x4 := cell_row (j := 4) GX1.out rfl
      have x5 := cell_row (j := 5) GX1.out rfl
      have y0 : (w1).frozen? ⟨g + 1, 0, none⟩ = false := frozen_of_row _ _ _ _ _ GX1.out
      have y1 : (w1).frozen? ⟨g + 1, 1, none⟩ = false := frozen_of_row _ _ _ _ _ GX1.out
      have y2 : (w1).frozen? ⟨g + 1, 2, none⟩ = false := frozen_of_row _ _ _ _ _ GX1.out
      have y3 : (w1).frozen? ⟨g + 1, 3, none⟩ = false := frozen_of_row _ _ _ _ _ GX1.out
      have y4 : (w1).frozen? ⟨g + 1, 4, none⟩ = false := frozen_of_row _ _ _ _ _ GX1.out
      have y5 : (w1).frozen? ⟨g + 1, 5, none⟩ = false := frozen_of_row _ _ _ _ _ GX1.out
      cases hlb : labelB lab with
      | false =>
        rw [hlb] at HLS
        have r0 := cell_row (j := 0) GR1.out rfl
        have r1 := cell_row (j := 1) GR1.out rfl
        have r2 := cell_row (j := 2) GR1.out rfl
        have r3 := cell_row (j := 3) GR1.out rfl
        have r4 := cell_row (j := 4) GR1.out rfl
        have r5 := cell_row (j := 5) GR1.out rfl
        have z0 : (w1).frozen? ⟨g, 0, none⟩ = false := frozen_of_row _ _ _ _ _ GR1.out
        have z1 : (w1).frozen? ⟨g, 1, none⟩ = false := frozen_of_row _ _ _ _ _ GR1.out
        have z2 : (w1).frozen? ⟨g, 2, none⟩ = false := frozen_of_row _ _ _ _ _ GR1.out
        have z3 : (w1).frozen? ⟨g, 3, none⟩ = false := frozen_of_row _ _ _ _ _ GR1.out
        have z4 : (w1).frozen? ⟨g, 4, none⟩ = false := frozen_of_row _ _ _ _ _ GR1.out
        have z5 : (w1).frozen? ⟨g, 5, none⟩ = false := frozen_of_row _ _ _ _ _ GR1.out
        go_wp2_with fail
        try simp only [Exit.inBlock, Exit.then]
        refine bodyPost_ret (results_cell_tmp rfl _ _ g 156 #[.string ⟨#[]⟩, .int .u8 0, .int .u8 0, .int .u16 0, .int .u32 0, .string ⟨#[]⟩] (0, 0) _ _ rfl rfl (set6_heap GR1.out rfl _ _ _ _ _ _) Tryz.underlying156 rfl infoA) rfl ?_
        refine ⟨⟨⟨⟨⟨#[]⟩, noIns, ⟨#[]⟩⟩, by first | (rw [HLS]; done) | (rw [HLS]; rfl), fun h => by (rw [HLS] at h ⊢) <;> first | rfl | cases h⟩⟩, ?_⟩
        rw [hgw]
        exact set6_below B1.out (Nat.le_refl g) _ _ _ _ _ _
      | true =>
        rw [hlb, if_pos rfl] at HLS
        go_upto_region 6 with fail
        have GX2 : Hid (((w1.setCell ⟨g + 1, 0, none⟩ (.string lab)).drew).heap[g + 1]? = some (.cells #[.string lab, .int .u8 0, .int .u8 0, .int .u16 0, .int .u32 0, .string ⟨#[]⟩] 156 (0, 0))) := heap_setCell_same _ _ _ _ _ _ GX1.out
        have GR2 : Hid (((w1.setCell ⟨g + 1, 0, none⟩ (.string lab)).drew).heap[g]? = some (.cells #[.string ⟨#[]⟩, .int .u8 0, .int .u8 0, .int .u16 0, .int .u32 0, .string ⟨#[]⟩] 156 (0, 0))) := (heap_setCell_other _ _ _ _ (Nat.ne_of_lt (Nat.lt_succ_self g))).trans GR1.out
        have B2 : Hid (Below g w ((w1.setCell ⟨g + 1, 0, none⟩ (.string lab)).drew)) := by
          have h := B1.out.setCell (p := ⟨g + 1, 0, none⟩) (Nat.le_succ g) (.string lab)
          exact ⟨h.os, h.tape, h.output, h.size, h.block⟩
        go_region
        all_goals go_wp2_with fail
        · go_meet
          case rel => exact ⟨_, _, _, lab, ws.tail, rfl, (List.length_tail).symm, .inl (by omega), ⟨by omega, by unfold maxLen; omega⟩, HLS, tail_size HS.out, LS, .inr hlb, GX2.out, GR2.out, B2.out⟩
        · go_meet
          case rel => exact ⟨_, _, _, lab, ws.tail, rfl, (List.length_tail).symm, tail_at HSL.out, ⟨by omega, by omega⟩, HLS, tail_size HS.out, LS, .inr hlb, GX2.out, GR2.out, B2.out⟩
    | false =>
      rw [if_neg (by decide)] at HLS
      go_wp2_with fail
      go_meet
      case rel => exact ⟨_, _, _, eS, ws, rfl, rfl, HSL.out, ⟨hc, hm⟩, HLS, HS.out, by show (0 : Nat) ≤ _; omega, .inl eS_empty, GX0.out, GR0.out, B0.out⟩
  case rest =>
    obtain ⟨a', n', c', lb', vs0, rfl, HR⟩ := hcut
    clear HSL HS hs1 hs2 GX0 GR0 B0 HLS hcell hn hnm hc hm hA LS hcb
    obtain ⟨hlen, hsl, ⟨hn1, hn2⟩, HLS, hsz, lsz, lok, hgx, hgr, hbb⟩ := HR
    have GX0 := Lib.hid hgx; have GR0 := Lib.hid hgr; have B0 := Lib.hid hbb
    clear hgx hgr hbb
    obtain ⟨w0, rfl⟩ : ∃ x, x = wc := ⟨wc, rfl⟩
    have hm : n' ≤ 9223372036854775807 := by unfold maxLen at hn2; omega
    cases vs0 with
    | nil =>
      obtain rfl : n' = 0 := hlen
      have HLS : lineS ws = (100, al0) := HLS
      have x0 := cell_row (j := 0) GX0.out rfl
      have x1 := cell_row (j := 1) GX0.out rfl
      have x2 := cell_row (j := 2) GX0.out rfl
      have x3 := cell_row (j := 3) GX0.out rfl
      have x4 := cell_row (j := 4) GX0.out rfl
      have x5 := cell_row (j := 5) GX0.out rfl
      have y0 : (w0).frozen? ⟨g + 1, 0, none⟩ = false := frozen_of_row _ _ _ _ _ GX0.out
      have y1 : (w0).frozen? ⟨g + 1, 1, none⟩ = false := frozen_of_row _ _ _ _ _ GX0.out
      have y2 : (w0).frozen? ⟨g + 1, 2, none⟩ = false := frozen_of_row _ _ _ _ _ GX0.out
      have y3 : (w0).frozen? ⟨g + 1, 3, none⟩ = false := frozen_of_row _ _ _ _ _ GX0.out
      have y4 : (w0).frozen? ⟨g + 1, 4, none⟩ = false := frozen_of_row _ _ _ _ _ GX0.out
      have y5 : (w0).frozen? ⟨g + 1, 5, none⟩ = false := frozen_of_row _ _ _ _ _ GX0.out
      clear hsl hsz hn1 hn2
      have r0 := cell_row (j := 0) GR0.out rfl
      have r1 := cell_row (j := 1) GR0.out rfl
      have r2 := cell_row (j := 2) GR0.out rfl
      have r3 := cell_row (j := 3) GR0.out rfl
      have r4 := cell_row (j := 4) GR0.out rfl
      have r5 := cell_row (j := 5) GR0.out rfl
      have z0 : (w0).frozen? ⟨g, 0, none⟩ = false := frozen_of_row _ _ _ _ _ GR0.out
      have z1 : (w0).frozen? ⟨g, 1, none⟩ = false := frozen_of_row _ _ _ _ _ GR0.out
      have z2 : (w0).frozen? ⟨g, 2, none⟩ = false := frozen_of_row _ _ _ _ _ GR0.out
      have z3 : (w0).frozen? ⟨g, 3, none⟩ = false := frozen_of_row _ _ _ _ _ GR0.out
      have z4 : (w0).frozen? ⟨g, 4, none⟩ = false := frozen_of_row _ _ _ _ _ GR0.out
      have z5 : (w0).frozen? ⟨g, 5, none⟩ = false := frozen_of_row _ _ _ _ _ GR0.out
      go_wp2_with fail
      try simp only [Exit.inBlock, Exit.then]
      refine bodyPost_ret (results_cell_tmp rfl _ _ g 156 #[.string lb', .int .u8 0, .int .u8 0, .int .u16 0, .int .u32 0, .string ⟨#[]⟩] (0, 0) _ _ rfl rfl (set6_heap GR0.out rfl _ _ _ _ _ _) Tryz.underlying156 rfl infoA) rfl ?_
      refine ⟨⟨⟨⟨lb', noIns, ⟨#[]⟩⟩, by first | (rw [HLS]; done) | (rw [HLS]; rfl), fun h => by (rw [HLS] at h ⊢) <;> first | rfl | cases h⟩⟩, ?_⟩
      rw [hgw]
      exact set6_below B0.out (Nat.le_refl g) _ _ _ _ _ _
    | cons f1 vs =>
    have HLS : lineS ws = opS lb' (opR f1.data.toList).1 (opR f1.data.toList).2 vs := HLS
    have HSN : Hid (∀ i, i < vs.length → (vs.getD i eS).size ≤ 1000000) := fun i hi => by
      have := (hsz (i + 1) (by rw [List.length_cons]; omega)).2
      rw [List.getD_cons_succ] at this; omega
    have f1s : f1.size ≤ 281474976710656 := by
      have := (hsz 0 (by rw [List.length_cons]; omega)).2
      rw [List.getD_cons_zero] at this; omega
    subst hlen
    obtain ⟨b', off', rfl, hb', hc'⟩ := hsl.at (by rw [List.length_cons]; omega)
    have hbg : b' < g := HG.out ▸ hb'
    have HCN : Hid (∀ W, Below g w W → ∀ i, i < vs.length → W.cell? ⟨b', off' + (i + 1), none⟩ = some (.string (vs.getD i eS))) := fun W hW i hi => (hW.cell hbg).trans (hc' (i + 1) (by rw [List.length_cons]; omega))
    have c0 : w0.cell? ⟨b', off', none⟩ = some (.string f1) := (B0.out.cell hbg).trans (hc' 0 (by rw [List.length_cons]; omega))
    clear hsz hsl hc'
    obtain ⟨ho, hz⟩ := opR_lt f1.data.toList
    have HOZ := Lib.hid (opR_z f1.data.toList)
    have HOP := Lib.hid (fun W => split_any f1 W f1s)
    unfold opV at HOP
    generalize (opR f1.data.toList).1 = o at *
    generalize (opR f1.data.toList).2 = z at *
    rw [List.length_cons] at *
    generalize hnv : vs.length = nv at *
    have HWD := Lib.hid (fun W => words_any o W)
    generalize hwn : wordsN o = wn at *
    have HLK := Lib.hid lok
    clear lok
    have x0 := cell_row (j := 0) GX0.out rfl
    have x1 := cell_row (j := 1) GX0.out rfl
    have x2 := cell_row (j := 2) GX0.out rfl
    have x3 := cell_row (j := 3) GX0.out rfl
    have x4 := cell_row (j := 4) GX0.out rfl
    have x5 := cell_row (j := 5) GX0.out rfl
    have y0 : (w0).frozen? ⟨g + 1, 0, none⟩ = false := frozen_of_row _ _ _ _ _ GX0.out
    have y1 : (w0).frozen? ⟨g + 1, 1, none⟩ = false := frozen_of_row _ _ _ _ _ GX0.out
    have y2 : (w0).frozen? ⟨g + 1, 2, none⟩ = false := frozen_of_row _ _ _ _ _ GX0.out
    have y3 : (w0).frozen? ⟨g + 1, 3, none⟩ = false := frozen_of_row _ _ _ _ _ GX0.out
    have y4 : (w0).frozen? ⟨g + 1, 4, none⟩ = false := frozen_of_row _ _ _ _ _ GX0.out
    have y5 : (w0).frozen? ⟨g + 1, 5, none⟩ = false := frozen_of_row _ _ _ _ _ GX0.out
    go_wp2_with fail
    refine (HOP.out w0).mono ?_
    rintro e w1 ⟨rfl, hb1⟩
    have GX1 := Lib.hid (kept GX0.out hb1)
    have GR1 := Lib.hid (kept GR0.out hb1)
    have B1 : Hid (Below g w w1) := B0.out.trans (hb1.mono (by have h := B0.out.size; omega))
    clear hb1 GX0 GR0 B0 x0 x1 x2 x3 x4 x5 y0 y1 y2 y3 y4 y5
    have x0 := cell_row (j := 0) GX1.out rfl
    have x1 := cell_row (j := 1) GX1.out rfl
    have x2 := cell_row (j := 2) GX1.out rfl
    have x3 := cell_row (j := 3) GX1.out rfl
    have x4 := cell_row (j := 4) GX1.out rfl
    have x5 := cell_row (j := 5) GX1.out rfl
    have y0 : (w1).frozen? ⟨g + 1, 0, none⟩ = false := frozen_of_row _ _ _ _ _ GX1.out
    have y1 : (w1).frozen? ⟨g + 1, 1, none⟩ = false := frozen_of_row _ _ _ _ _ GX1.out
    have y2 : (w1).frozen? ⟨g + 1, 2, none⟩ = false := frozen_of_row _ _ _ _ _ GX1.out
    have y3 : (w1).frozen? ⟨g + 1, 3, none⟩ = false := frozen_of_row _ _ _ _ _ GX1.out
    have y4 : (w1).frozen? ⟨g + 1, 4, none⟩ = false := frozen_of_row _ _ _ _ _ GX1.out
    have y5 : (w1).frozen? ⟨g + 1, 5, none⟩ = false := frozen_of_row _ _ _ _ _ GX1.out
    clear c0 HOP
    by_cases ho0 : o = 0
    · have HLS := HLS.trans (opS_bad (.inl ho0))
      have t0 : ((o : Int) == 0) = true := beq_iff_eq.2 (by omega)
      have r0 := cell_row (j := 0) GR1.out rfl
      have r1 := cell_row (j := 1) GR1.out rfl
      have r2 := cell_row (j := 2) GR1.out rfl
      have r3 := cell_row (j := 3) GR1.out rfl
      have r4 := cell_row (j := 4) GR1.out rfl
      have r5 := cell_row (j := 5) GR1.out rfl
      have z0 : (w1).frozen? ⟨g, 0, none⟩ = false := frozen_of_row _ _ _ _ _ GR1.out
      have z1 : (w1).frozen? ⟨g, 1, none⟩ = false := frozen_of_row _ _ _ _ _ GR1.out
      have z2 : (w1).frozen? ⟨g, 2, none⟩ = false := frozen_of_row _ _ _ _ _ GR1.out
      have z3 : (w1).frozen? ⟨g, 3, none⟩ = false := frozen_of_row _ _ _ _ _ GR1.out
      have z4 : (w1).frozen? ⟨g, 4, none⟩ = false := frozen_of_row _ _ _ _ _ GR1.out
      have z5 : (w1).frozen? ⟨g, 5, none⟩ = false := frozen_of_row _ _ _ _ _ GR1.out
      go_wp2_with fail
      try simp only [Exit.inBlock, Exit.then]
      refine bodyPost_ret (results_cell_tmp rfl _ _ g 156 #[.string lb', .int .u8 0, .int .u8 0, .int .u16 0, .int .u32 0, .string ⟨#[]⟩] (0, 0) _ _ rfl rfl (set6_heap GR1.out rfl _ _ _ _ _ _) Tryz.underlying156 rfl infoA) rfl ?_
      refine ⟨⟨⟨⟨lb', noIns, ⟨#[]⟩⟩, by first | (rw [HLS]; done) | (rw [HLS]; rfl), fun h => by (rw [HLS] at h ⊢) <;> first | rfl | cases h⟩⟩, ?_⟩
      rw [hgw]
      exact set6_below B1.out (Nat.le_refl g) _ _ _ _ _ _
    have t0 : ((o : Int) == 0) = false := beq_eq_false_iff_ne.2 (by omega)
    go_wp2_with fail
    refine (HWD.out _).mono ?_
    rintro e w' ⟨rfl, hw⟩
    obtain rfl : w1 = w' := hw.symm
    by_cases hnw : nv = wn
    case neg =>
      have HLS := HLS.trans (opS_bad (.inr (by rw [hnv, hwn]; exact hnw)))
      have t9 : ((nv : Int) != (wn : Int)) = true := bne_iff_ne.2 (by omega)
      have r0 := cell_row (j := 0) GR1.out rfl
      have r1 := cell_row (j := 1) GR1.out rfl
      have r2 := cell_row (j := 2) GR1.out rfl
      have r3 := cell_row (j := 3) GR1.out rfl
      have r4 := cell_row (j := 4) GR1.out rfl
      have r5 := cell_row (j := 5) GR1.out rfl
      have z0 : (w1).frozen? ⟨g, 0, none⟩ = false := frozen_of_row _ _ _ _ _ GR1.out
      have z1 : (w1).frozen? ⟨g, 1, none⟩ = false := frozen_of_row _ _ _ _ _ GR1.out
      have z2 : (w1).frozen? ⟨g, 2, none⟩ = false := frozen_of_row _ _ _ _ _ GR1.out
      have z3 : (w1).frozen? ⟨g, 3, none⟩ = false := frozen_of_row _ _ _ _ _ GR1.out
      have z4 : (w1).frozen? ⟨g, 4, none⟩ = false := frozen_of_row _ _ _ _ _ GR1.out
      have z5 : (w1).frozen? ⟨g, 5, none⟩ = false := frozen_of_row _ _ _ _ _ GR1.out
      go_wp2_with fail
      try simp only [Exit.inBlock, Exit.then]
      refine bodyPost_ret (results_cell_tmp rfl _ _ g 156 #[.string lb', .int .u8 0, .int .u8 0, .int .u16 0, .int .u32 0, .string ⟨#[]⟩] (0, 0) _ _ rfl rfl (set6_heap GR1.out rfl _ _ _ _ _ _) Tryz.underlying156 rfl infoA) rfl ?_
      refine ⟨⟨⟨⟨lb', noIns, ⟨#[]⟩⟩, by first | (rw [HLS]; done) | (rw [HLS]; rfl), fun h => by (rw [HLS] at h ⊢) <;> first | rfl | cases h⟩⟩, ?_⟩
      rw [hgw]
      exact set6_below B1.out (Nat.le_refl g) _ _ _ _ _ _
    subst hnw
    have t9 : ((nv : Int) != (nv : Int)) = false := by simp
    go_upto_region 13 with fail
    have hp1 : g + 1 < w1.heap.size := heap_lt GX1.out
    have GX2 : Hid (((w1.setCell ⟨g + 1, 1, none⟩ (.int .u8 (o : Int))).setCell ⟨g + 1, 2, none⟩ (.int .u8 (z : Int))).heap[g + 1]? = some (.cells #[.string lb', .int .u8 (o : Int), .int .u8 (z : Int), .int .u16 0, .int .u32 0, .string ⟨#[]⟩] 156 (0, 0))) := heap_setCell_same _ _ _ _ _ _ (heap_setCell_same _ _ _ _ _ _ GX1.out)
    have GR2 : Hid (((w1.setCell ⟨g + 1, 1, none⟩ (.int .u8 (o : Int))).setCell ⟨g + 1, 2, none⟩ (.int .u8 (z : Int))).heap[g]? = some (.cells #[.string ⟨#[]⟩, .int .u8 0, .int .u8 0, .int .u16 0, .int .u32 0, .string ⟨#[]⟩] 156 (0, 0))) := (heap_setCell_other _ _ _ _ (Nat.ne_of_lt (Nat.lt_succ_self g))).trans ((heap_setCell_other _ _ _ _ (Nat.ne_of_lt (Nat.lt_succ_self g))).trans GR1.out)
    have B2 : Hid (Below g w ((w1.setCell ⟨g + 1, 1, none⟩ (.int .u8 (o : Int))).setCell ⟨g + 1, 2, none⟩ (.int .u8 (z : Int)))) := (B1.out.setCell (p := ⟨g + 1, 1, none⟩) (Nat.le_succ g) _).setCell (p := ⟨g + 1, 2, none⟩) (Nat.le_succ g) _
    have hp2 : g + 1 < ((w1.setCell ⟨g + 1, 1, none⟩ (.int .u8 (o : Int))).setCell ⟨g + 1, 2, none⟩ (.int .u8 (z : Int))).heap.size := heap_lt GX2.out
    generalize (w1.setCell ⟨g + 1, 1, none⟩ (.int .u8 (o : Int))).setCell ⟨g + 1, 2, none⟩ (.int .u8 (z : Int)) = w2 at *
    clear GX1 GR1 B1 x0 x1 x2 x3 x4 x5 y0 y1 y2 y3 y4 y5 hp1
    have GX3 : Hid ((w2.alloc (.cells #[.bool true] 4)).heap[g + 1]? = some (.cells #[.string lb', .int .u8 (o : Int), .int .u8 (z : Int), .int .u16 0, .int .u32 0, .string ⟨#[]⟩] 156 (0, 0))) := kept GX2.out (alloc_below _ _)
    have GR3 : Hid ((w2.alloc (.cells #[.bool true] 4)).heap[g]? = some (.cells #[.string ⟨#[]⟩, .int .u8 0, .int .u8 0, .int .u16 0, .int .u32 0, .string ⟨#[]⟩] 156 (0, 0))) := kept GR2.out (alloc_below _ _)
    have GP3 : Hid ((w2.alloc (.cells #[.bool true] 4)).heap[w2.heap.size]? = some (.cells #[.bool true] 4 (0, 0))) := heap_alloc_new _ _
    have B3 : Hid (Below g w (w2.alloc (.cells #[.bool true] 4))) := B2.out.alloc (by omega) _
    go_upto_block 0 with fail
    generalize w2.alloc (.cells #[.bool true] 4) = w3 at *
    generalize w2.heap.size = p at *
    clear GX2 GR2 B2
    have HEW : Hid (∀ W, Below g w W → ErrW W) := fun W hW => HE.out.below (by rw [HG.out]; exact hW)
    have HTW : Hid (∀ W, Below g w W → TabW W) := fun W hW => HT.out.below (by rw [HG.out]; exact hW)
    clear HE HT
    go_cut [] from 11 to 118 (fun W => ∃ (ob : Bool) (y : AL), W.heap[p]? = some (.cells #[.bool ob] 4 (0, 0)) ∧ SwR w g ws W ob y)
    case first =>
      have x0 := cell_row (j := 0) GX3.out rfl
      have x1 := cell_row (j := 1) GX3.out rfl
      have x2 := cell_row (j := 2) GX3.out rfl
      have x3 := cell_row (j := 3) GX3.out rfl
      have x4 := cell_row (j := 4) GX3.out rfl
      have x5 := cell_row (j := 5) GX3.out rfl
      have y0 : (w3).frozen? ⟨g + 1, 0, none⟩ = false := frozen_of_row _ _ _ _ _ GX3.out
      have y1 : (w3).frozen? ⟨g + 1, 1, none⟩ = false := frozen_of_row _ _ _ _ _ GX3.out
      have y2 : (w3).frozen? ⟨g + 1, 2, none⟩ = false := frozen_of_row _ _ _ _ _ GX3.out
      have y3 : (w3).frozen? ⟨g + 1, 3, none⟩ = false := frozen_of_row _ _ _ _ _ GX3.out
      have y4 : (w3).frozen? ⟨g + 1, 4, none⟩ = false := frozen_of_row _ _ _ _ _ GX3.out
      have y5 : (w3).frozen? ⟨g + 1, 5, none⟩ = false := frozen_of_row _ _ _ _ _ GX3.out
      rcases op_class o ho with rfl | ⟨h2, h16⟩ | rfl | rfl | rfl | rfl | rfl | rfl | rfl | rfl | rfl | rfl | rfl | rfl
      · exact absurd rfl ho0
      · have hw0 : wordsN o = 0 := by unfold wordsN; rw [if_neg (by omega), if_neg (by omega)]
        obtain rfl : nv = 0 := by rw [← hwn]; exact hw0
        have hz0 : z = 0 := by rcases HOZ.out with ⟨h, _⟩ | ⟨_, _, h⟩ <;> omega
        subst hz0
        go_wp2_with fail
        refine (HWD.out _).mono ?_
        rintro e w' ⟨rfl, hw⟩
        obtain rfl : w3 = w' := hw.symm
        have L := Lib.hid (leaf0 HLK.out lsz ho0 ho hw0 hnv)
        go_wp2_with fail
        go_meet
        case rel => exact ⟨true, ⟨lb', ⟨o, 0, 0, 0⟩, eS⟩, GP3.out, fun h1 h2 => HLS.trans (L.out.yes h1 h2), fun h => by rw [HLS]; exact L.out.no h, L.out.ok, GX3.out, GR3.out, B3.out⟩
      · have hw0 : wordsN 27 = 0 := by decide
        obtain rfl : nv = 0 := by rw [← hwn]; exact hw0
        have hz0 : z = 0 := by rcases HOZ.out with ⟨h, _⟩ | ⟨_, _, h⟩ <;> omega
        subst hz0
        go_wp2_with fail
        refine (HWD.out _).mono ?_
        rintro e w' ⟨rfl, hw⟩
        obtain rfl : w3 = w' := hw.symm
        have L := Lib.hid (leaf0 HLK.out lsz ho0 ho hw0 hnv)
        go_wp2_with fail
        go_meet
        case rel => exact ⟨true, ⟨lb', ⟨27, 0, 0, 0⟩, eS⟩, GP3.out, fun h1 h2 => HLS.trans (L.out.yes h1 h2), fun h => by rw [HLS]; exact L.out.no h, L.out.ok, GX3.out, GR3.out, B3.out⟩
      · skip
        have hz0 : z = 0 := by rcases HOZ.out with ⟨h, _⟩ | ⟨_, _, h⟩ <;> omega
        subst hz0
        obtain rfl : nv = 2 := by rw [← hwn]; rfl
        obtain ⟨s1, hv1⟩ : ∃ v0, v0 = vs.getD 1 eS := ⟨_, rfl⟩
        have HSV1 : Hid (s1.size ≤ 1000000) := by rw [hv1]; exact HSN.out 1 (by omega)
        have HV1 := Lib.hid hv1.symm
        clear hv1
        obtain ⟨s0, hv0⟩ : ∃ v0, v0 = vs.getD 0 eS := ⟨_, rfl⟩
        have HSV0 : Hid (s0.size ≤ 1000000) := by rw [hv0]; exact HSN.out 0 (by omega)
        have u1 : w3.cell? ⟨b', off' + 1, none⟩ = some (.string s0) := by rw [hv0]; exact HCN.out w3 B3.out 0 (by omega)
        have HV0 := Lib.hid hv0.symm
        clear hv0
        go_wp2_with fail
        refine (HWD.out _).mono ?_
        rintro e w' ⟨rfl, hw⟩
        obtain rfl : w3 = w' := hw.symm
        go_wp2_with fail
        refine (jumps_any 23 w3).mono ?_
        rintro e w' ⟨rfl, hw⟩
        obtain rfl : w3 = w' := hw.symm
        rw [show jumpB 23 = false from rfl]
        go_wp2_with fail
        refine (jumps_any 23 w3).mono ?_
        rintro e w' ⟨rfl, hw⟩
        obtain rfl : w3 = w' := hw.symm
        rw [show jumpB 23 = false from rfl]
        go_wp2_with fail
        have GC3 := cell_row (j := 0) GP3.out rfl
        refine (lval_any s0 255 p 255 true w3 (by have := HSV0.out; omega) (HEW.out _ B3.out) (HTW.out _ B3.out) GP3.out rfl (by decide)).mono ?_
        rintro e w5 ⟨v0, hv0, rfl, hn0, hgp, hbp⟩
        have HN0 := Lib.hid hn0
        have GX5 := Lib.hid ((hbp.block _ hp2).trans GX3.out)
        have GR5 := Lib.hid ((hbp.block _ (Nat.lt_of_succ_lt hp2)).trans GR3.out)
        have GP5 := Lib.hid hgp
        have B5 : Hid (Below g w w5) := B3.out.trans (hbp.mono (Nat.le_of_lt (Nat.lt_of_succ_lt hp2)))
        clear hn0 hgp hbp GC3 GX3 GR3 GP3 B3 x0 x1 x2 x3 x4 x5 y0 y1 y2 y3 y4 y5
        have x0 := cell_row (j := 0) GX5.out rfl
        have x1 := cell_row (j := 1) GX5.out rfl
        have x2 := cell_row (j := 2) GX5.out rfl
        have x3 := cell_row (j := 3) GX5.out rfl
        have x4 := cell_row (j := 4) GX5.out rfl
        have x5 := cell_row (j := 5) GX5.out rfl
        have y0 : (w5).frozen? ⟨g + 1, 0, none⟩ = false := frozen_of_row _ _ _ _ _ GX5.out
        have y1 : (w5).frozen? ⟨g + 1, 1, none⟩ = false := frozen_of_row _ _ _ _ _ GX5.out
        have y2 : (w5).frozen? ⟨g + 1, 2, none⟩ = false := frozen_of_row _ _ _ _ _ GX5.out
        have y3 : (w5).frozen? ⟨g + 1, 3, none⟩ = false := frozen_of_row _ _ _ _ _ GX5.out
        have y4 : (w5).frozen? ⟨g + 1, 4, none⟩ = false := frozen_of_row _ _ _ _ _ GX5.out
        have y5 : (w5).frozen? ⟨g + 1, 5, none⟩ = false := frozen_of_row _ _ _ _ _ GX5.out
        go_upto_region 16 with fail
        have GP6 : Hid ((w5.setCell ⟨g + 1, 2, none⟩ (.int .u8 ((v0 : Int) % 256))).heap[p]? = _) := (heap_setCell_other _ _ _ _ (Nat.ne_of_gt hp2)).trans GP5.out
        have GX6 : Hid ((w5.setCell ⟨g + 1, 2, none⟩ (.int .u8 ((v0 : Int) % 256))).heap[g + 1]? = some (.cells #[.string lb', .int .u8 23, .int .u8 ((v0 : Int) % 256), .int .u16 0, .int .u32 0, .string ⟨#[]⟩] 156 (0, 0))) := heap_setCell_same _ _ _ _ _ _ GX5.out
        have GR6 : Hid ((w5.setCell ⟨g + 1, 2, none⟩ (.int .u8 ((v0 : Int) % 256))).heap[g]? = some (.cells #[.string ⟨#[]⟩, .int .u8 0, .int .u8 0, .int .u16 0, .int .u32 0, .string ⟨#[]⟩] 156 (0, 0))) := (heap_setCell_other _ _ _ _ (Nat.ne_of_lt (Nat.lt_succ_self g))).trans GR5.out
        have B6 : Hid (Below g w (w5.setCell ⟨g + 1, 2, none⟩ (.int .u8 ((v0 : Int) % 256)))) := B5.out.setCell (p := ⟨g + 1, 2, none⟩) (Nat.le_succ g) _
        generalize w5.setCell ⟨g + 1, 2, none⟩ (.int .u8 ((v0 : Int) % 256)) = w6 at *
        clear GX5 GR5 B5 x0 x1 x2 x3 x4 x5 y0 y1 y2 y3 y4 y5
        have x0 := cell_row (j := 0) GX6.out rfl
        have x1 := cell_row (j := 1) GX6.out rfl
        have x2 := cell_row (j := 2) GX6.out rfl
        have x3 := cell_row (j := 3) GX6.out rfl
        have x4 := cell_row (j := 4) GX6.out rfl
        have x5 := cell_row (j := 5) GX6.out rfl
        have y0 : (w6).frozen? ⟨g + 1, 0, none⟩ = false := frozen_of_row _ _ _ _ _ GX6.out
        have y1 : (w6).frozen? ⟨g + 1, 1, none⟩ = false := frozen_of_row _ _ _ _ _ GX6.out
        have y2 : (w6).frozen? ⟨g + 1, 2, none⟩ = false := frozen_of_row _ _ _ _ _ GX6.out
        have y3 : (w6).frozen? ⟨g + 1, 3, none⟩ = false := frozen_of_row _ _ _ _ _ GX6.out
        have y4 : (w6).frozen? ⟨g + 1, 4, none⟩ = false := frozen_of_row _ _ _ _ _ GX6.out
        have y5 : (w6).frozen? ⟨g + 1, 5, none⟩ = false := frozen_of_row _ _ _ _ _ GX6.out
        clear GP5
        go_wp2_with fail
        refine (HWD.out _).mono ?_
        rintro e w' ⟨rfl, hw⟩
        obtain rfl : w6 = w' := hw.symm
        have u2 : w6.cell? ⟨b', off' + 2, none⟩ = some (.string s1) := by rw [← HV1.out]; exact HCN.out w6 B6.out 1 (by omega)
        go_wp2_with fail
        have GC6 := cell_row (j := 0) GP6.out rfl
        refine (lval_any s1 65535 p 65535 (okV s0 255 true) w6 (by have := HSV1.out; omega) (HEW.out _ B6.out) (HTW.out _ B6.out) GP6.out rfl (by decide)).mono ?_
        rintro e w7 ⟨v1, hv1, rfl, hn1, hgp, hbp⟩
        have HN1 := Lib.hid hn1
        have GX7 := Lib.hid ((hbp.block _ hp2).trans GX6.out)
        have GR7 := Lib.hid ((hbp.block _ (Nat.lt_of_succ_lt hp2)).trans GR6.out)
        have GP7 := Lib.hid hgp
        have B7 : Hid (Below g w w7) := B6.out.trans (hbp.mono (Nat.le_of_lt (Nat.lt_of_succ_lt hp2)))
        clear hn1 hgp hbp GC6 GX6 GR6 GP6 B6 x0 x1 x2 x3 x4 x5 y0 y1 y2 y3 y4 y5
        have x0 := cell_row (j := 0) GX7.out rfl
        have x1 := cell_row (j := 1) GX7.out rfl
        have x2 := cell_row (j := 2) GX7.out rfl
        have x3 := cell_row (j := 3) GX7.out rfl
        have x4 := cell_row (j := 4) GX7.out rfl
        have x5 := cell_row (j := 5) GX7.out rfl
        have y0 : (w7).frozen? ⟨g + 1, 0, none⟩ = false := frozen_of_row _ _ _ _ _ GX7.out
        have y1 : (w7).frozen? ⟨g + 1, 1, none⟩ = false := frozen_of_row _ _ _ _ _ GX7.out
        have y2 : (w7).frozen? ⟨g + 1, 2, none⟩ = false := frozen_of_row _ _ _ _ _ GX7.out
        have y3 : (w7).frozen? ⟨g + 1, 3, none⟩ = false := frozen_of_row _ _ _ _ _ GX7.out
        have y4 : (w7).frozen? ⟨g + 1, 4, none⟩ = false := frozen_of_row _ _ _ _ _ GX7.out
        have y5 : (w7).frozen? ⟨g + 1, 5, none⟩ = false := frozen_of_row _ _ _ _ _ GX7.out
        have L := Lib.hid (leaf2 (lab := lb') (o := 23) (vs := vs) HLK.out lsz (by omega) hnv HV0.out HV1.out HN0.out HN1.out)
        go_wp2_with fail
        have GP8 : Hid ((w7.setCell ⟨g + 1, 3, none⟩ (.int .u16 (IntKind.u16.wrap (v1 : Int)))).heap[p]? = _) := (heap_setCell_other _ _ _ _ (Nat.ne_of_gt hp2)).trans GP7.out
        have GX8 : Hid ((w7.setCell ⟨g + 1, 3, none⟩ (.int .u16 (IntKind.u16.wrap (v1 : Int)))).heap[g + 1]? = some (.cells #[.string lb', .int .u8 23, .int .u8 ((v0 : Int) % 256), .int .u16 (IntKind.u16.wrap (v1 : Int)), .int .u32 0, .string ⟨#[]⟩] 156 (0, 0))) := heap_setCell_same _ _ _ _ _ _ GX7.out
        have GR8 : Hid ((w7.setCell ⟨g + 1, 3, none⟩ (.int .u16 (IntKind.u16.wrap (v1 : Int)))).heap[g]? = some (.cells #[.string ⟨#[]⟩, .int .u8 0, .int .u8 0, .int .u16 0, .int .u32 0, .string ⟨#[]⟩] 156 (0, 0))) := (heap_setCell_other _ _ _ _ (Nat.ne_of_lt (Nat.lt_succ_self g))).trans GR7.out
        have B8 : Hid (Below g w (w7.setCell ⟨g + 1, 3, none⟩ (.int .u16 (IntKind.u16.wrap (v1 : Int))))) := B7.out.setCell (p := ⟨g + 1, 3, none⟩) (Nat.le_succ g) _
        generalize w7.setCell ⟨g + 1, 3, none⟩ (.int .u16 (IntKind.u16.wrap (v1 : Int))) = w8 at *
        clear GX7 GR7 B7 x0 x1 x2 x3 x4 x5 y0 y1 y2 y3 y4 y5
        have x0 := cell_row (j := 0) GX8.out rfl
        have x1 := cell_row (j := 1) GX8.out rfl
        have x2 := cell_row (j := 2) GX8.out rfl
        have x3 := cell_row (j := 3) GX8.out rfl
        have x4 := cell_row (j := 4) GX8.out rfl
        have x5 := cell_row (j := 5) GX8.out rfl
        have y0 : (w8).frozen? ⟨g + 1, 0, none⟩ = false := frozen_of_row _ _ _ _ _ GX8.out
        have y1 : (w8).frozen? ⟨g + 1, 1, none⟩ = false := frozen_of_row _ _ _ _ _ GX8.out
        have y2 : (w8).frozen? ⟨g + 1, 2, none⟩ = false := frozen_of_row _ _ _ _ _ GX8.out
        have y3 : (w8).frozen? ⟨g + 1, 3, none⟩ = false := frozen_of_row _ _ _ _ _ GX8.out
        have y4 : (w8).frozen? ⟨g + 1, 4, none⟩ = false := frozen_of_row _ _ _ _ _ GX8.out
        have y5 : (w8).frozen? ⟨g + 1, 5, none⟩ = false := frozen_of_row _ _ _ _ _ GX8.out
        clear GP7
        go_meet
        case rel => exact ⟨okV s1 65535 (okV s0 255 true), ⟨lb', ⟨23, v0 % 256, v1 % 65536, 0⟩, eS⟩, GP8.out, fun h1 h2 => HLS.trans (L.out.yes h1 h2), fun h => by rw [HLS]; exact L.out.no h, L.out.ok, GX8.out, GR8.out, B8.out⟩
      · skip
        have hz0 : z = 0 := by rcases HOZ.out with ⟨h, _⟩ | ⟨_, _, h⟩ <;> omega
        subst hz0
        obtain rfl : nv = 2 := by rw [← hwn]; rfl
        obtain ⟨s1, hv1⟩ : ∃ v0, v0 = vs.getD 1 eS := ⟨_, rfl⟩
        have HSV1 : Hid (s1.size ≤ 1000000) := by rw [hv1]; exact HSN.out 1 (by omega)
        have HV1 := Lib.hid hv1.symm
        clear hv1
        obtain ⟨s0, hv0⟩ : ∃ v0, v0 = vs.getD 0 eS := ⟨_, rfl⟩
        have HSV0 : Hid (s0.size ≤ 1000000) := by rw [hv0]; exact HSN.out 0 (by omega)
        have u1 : w3.cell? ⟨b', off' + 1, none⟩ = some (.string s0) := by rw [hv0]; exact HCN.out w3 B3.out 0 (by omega)
        have HV0 := Lib.hid hv0.symm
        clear hv0
        go_wp2_with fail
        refine (HWD.out _).mono ?_
        rintro e w' ⟨rfl, hw⟩
        obtain rfl : w3 = w' := hw.symm
        go_wp2_with fail
        refine (jumps_any 25 w3).mono ?_
        rintro e w' ⟨rfl, hw⟩
        obtain rfl : w3 = w' := hw.symm
        rw [show jumpB 25 = false from rfl]
        go_wp2_with fail
        refine (jumps_any 25 w3).mono ?_
        rintro e w' ⟨rfl, hw⟩
        obtain rfl : w3 = w' := hw.symm
        rw [show jumpB 25 = false from rfl]
        go_wp2_with fail
        have GC3 := cell_row (j := 0) GP3.out rfl
        refine (lval_any s0 255 p 255 true w3 (by have := HSV0.out; omega) (HEW.out _ B3.out) (HTW.out _ B3.out) GP3.out rfl (by decide)).mono ?_
        rintro e w5 ⟨v0, hv0, rfl, hn0, hgp, hbp⟩
        have HN0 := Lib.hid hn0
        have GX5 := Lib.hid ((hbp.block _ hp2).trans GX3.out)
        have GR5 := Lib.hid ((hbp.block _ (Nat.lt_of_succ_lt hp2)).trans GR3.out)
        have GP5 := Lib.hid hgp
        have B5 : Hid (Below g w w5) := B3.out.trans (hbp.mono (Nat.le_of_lt (Nat.lt_of_succ_lt hp2)))
        clear hn0 hgp hbp GC3 GX3 GR3 GP3 B3 x0 x1 x2 x3 x4 x5 y0 y1 y2 y3 y4 y5
        have x0 := cell_row (j := 0) GX5.out rfl
        have x1 := cell_row (j := 1) GX5.out rfl
        have x2 := cell_row (j := 2) GX5.out rfl
        have x3 := cell_row (j := 3) GX5.out rfl
        have x4 := cell_row (j := 4) GX5.out rfl
        have x5 := cell_row (j := 5) GX5.out rfl
        have y0 : (w5).frozen? ⟨g + 1, 0, none⟩ = false := frozen_of_row _ _ _ _ _ GX5.out
        have y1 : (w5).frozen? ⟨g + 1, 1, none⟩ = false := frozen_of_row _ _ _ _ _ GX5.out
        have y2 : (w5).frozen? ⟨g + 1, 2, none⟩ = false := frozen_of_row _ _ _ _ _ GX5.out
        have y3 : (w5).frozen? ⟨g + 1, 3, none⟩ = false := frozen_of_row _ _ _ _ _ GX5.out
        have y4 : (w5).frozen? ⟨g + 1, 4, none⟩ = false := frozen_of_row _ _ _ _ _ GX5.out
        have y5 : (w5).frozen? ⟨g + 1, 5, none⟩ = false := frozen_of_row _ _ _ _ _ GX5.out
        go_upto_region 16 with fail
        have GP6 : Hid ((w5.setCell ⟨g + 1, 2, none⟩ (.int .u8 ((v0 : Int) % 256))).heap[p]? = _) := (heap_setCell_other _ _ _ _ (Nat.ne_of_gt hp2)).trans GP5.out
        have GX6 : Hid ((w5.setCell ⟨g + 1, 2, none⟩ (.int .u8 ((v0 : Int) % 256))).heap[g + 1]? = some (.cells #[.string lb', .int .u8 25, .int .u8 ((v0 : Int) % 256), .int .u16 0, .int .u32 0, .string ⟨#[]⟩] 156 (0, 0))) := heap_setCell_same _ _ _ _ _ _ GX5.out
        have GR6 : Hid ((w5.setCell ⟨g + 1, 2, none⟩ (.int .u8 ((v0 : Int) % 256))).heap[g]? = some (.cells #[.string ⟨#[]⟩, .int .u8 0, .int .u8 0, .int .u16 0, .int .u32 0, .string ⟨#[]⟩] 156 (0, 0))) := (heap_setCell_other _ _ _ _ (Nat.ne_of_lt (Nat.lt_succ_self g))).trans GR5.out
        have B6 : Hid (Below g w (w5.setCell ⟨g + 1, 2, none⟩ (.int .u8 ((v0 : Int) % 256)))) := B5.out.setCell (p := ⟨g + 1, 2, none⟩) (Nat.le_succ g) _
        generalize w5.setCell ⟨g + 1, 2, none⟩ (.int .u8 ((v0 : Int) % 256)) = w6 at *
        clear GX5 GR5 B5 x0 x1 x2 x3 x4 x5 y0 y1 y2 y3 y4 y5
        have x0 := cell_row (j := 0) GX6.out rfl
        have x1 := cell_row (j := 1) GX6.out rfl
        have x2 := cell_row (j := 2) GX6.out rfl
        have x3 := cell_row (j := 3) GX6.out rfl
        have x4 := cell_row (j := 4) GX6.out rfl
        have x5 := cell_row (j := 5) GX6.out rfl
        have y0 : (w6).frozen? ⟨g + 1, 0, none⟩ = false := frozen_of_row _ _ _ _ _ GX6.out
        have y1 : (w6).frozen? ⟨g + 1, 1, none⟩ = false := frozen_of_row _ _ _ _ _ GX6.out
        have y2 : (w6).frozen? ⟨g + 1, 2, none⟩ = false := frozen_of_row _ _ _ _ _ GX6.out
        have y3 : (w6).frozen? ⟨g + 1, 3, none⟩ = false := frozen_of_row _ _ _ _ _ GX6.out
        have y4 : (w6).frozen? ⟨g + 1, 4, none⟩ = false := frozen_of_row _ _ _ _ _ GX6.out
        have y5 : (w6).frozen? ⟨g + 1, 5, none⟩ = false := frozen_of_row _ _ _ _ _ GX6.out
        clear GP5
        go_wp2_with fail
        refine (HWD.out _).mono ?_
        rintro e w' ⟨rfl, hw⟩
        obtain rfl : w6 = w' := hw.symm
        have u2 : w6.cell? ⟨b', off' + 2, none⟩ = some (.string s1) := by rw [← HV1.out]; exact HCN.out w6 B6.out 1 (by omega)
        go_wp2_with fail
        have GC6 := cell_row (j := 0) GP6.out rfl
        refine (lval_any s1 65535 p 65535 (okV s0 255 true) w6 (by have := HSV1.out; omega) (HEW.out _ B6.out) (HTW.out _ B6.out) GP6.out rfl (by decide)).mono ?_
        rintro e w7 ⟨v1, hv1, rfl, hn1, hgp, hbp⟩
        have HN1 := Lib.hid hn1
        have GX7 := Lib.hid ((hbp.block _ hp2).trans GX6.out)
        have GR7 := Lib.hid ((hbp.block _ (Nat.lt_of_succ_lt hp2)).trans GR6.out)
        have GP7 := Lib.hid hgp
        have B7 : Hid (Below g w w7) := B6.out.trans (hbp.mono (Nat.le_of_lt (Nat.lt_of_succ_lt hp2)))
        clear hn1 hgp hbp GC6 GX6 GR6 GP6 B6 x0 x1 x2 x3 x4 x5 y0 y1 y2 y3 y4 y5
        have x0 := cell_row (j := 0) GX7.out rfl
        have x1 := cell_row (j := 1) GX7.out rfl
        have x2 := cell_row (j := 2) GX7.out rfl
        have x3 := cell_row (j := 3) GX7.out rfl
        have x4 := cell_row (j := 4) GX7.out rfl
        have x5 := cell_row (j := 5) GX7.out rfl
        have y0 : (w7).frozen? ⟨g + 1, 0, none⟩ = false := frozen_of_row _ _ _ _ _ GX7.out
        have y1 : (w7).frozen? ⟨g + 1, 1, none⟩ = false := frozen_of_row _ _ _ _ _ GX7.out
        have y2 : (w7).frozen? ⟨g + 1, 2, none⟩ = false := frozen_of_row _ _ _ _ _ GX7.out
        have y3 : (w7).frozen? ⟨g + 1, 3, none⟩ = false := frozen_of_row _ _ _ _ _ GX7.out
        have y4 : (w7).frozen? ⟨g + 1, 4, none⟩ = false := frozen_of_row _ _ _ _ _ GX7.out
        have y5 : (w7).frozen? ⟨g + 1, 5, none⟩ = false := frozen_of_row _ _ _ _ _ GX7.out
        have L := Lib.hid (leaf2 (lab := lb') (o := 25) (vs := vs) HLK.out lsz (by omega) hnv HV0.out HV1.out HN0.out HN1.out)
        go_wp2_with fail
        have GP8 : Hid ((w7.setCell ⟨g + 1, 3, none⟩ (.int .u16 (IntKind.u16.wrap (v1 : Int)))).heap[p]? = _) := (heap_setCell_other _ _ _ _ (Nat.ne_of_gt hp2)).trans GP7.out
        have GX8 : Hid ((w7.setCell ⟨g + 1, 3, none⟩ (.int .u16 (IntKind.u16.wrap (v1 : Int)))).heap[g + 1]? = some (.cells #[.string lb', .int .u8 25, .int .u8 ((v0 : Int) % 256), .int .u16 (IntKind.u16.wrap (v1 : Int)), .int .u32 0, .string ⟨#[]⟩] 156 (0, 0))) := heap_setCell_same _ _ _ _ _ _ GX7.out
        have GR8 : Hid ((w7.setCell ⟨g + 1, 3, none⟩ (.int .u16 (IntKind.u16.wrap (v1 : Int)))).heap[g]? = some (.cells #[.string ⟨#[]⟩, .int .u8 0, .int .u8 0, .int .u16 0, .int .u32 0, .string ⟨#[]⟩] 156 (0, 0))) := (heap_setCell_other _ _ _ _ (Nat.ne_of_lt (Nat.lt_succ_self g))).trans GR7.out
        have B8 : Hid (Below g w (w7.setCell ⟨g + 1, 3, none⟩ (.int .u16 (IntKind.u16.wrap (v1 : Int))))) := B7.out.setCell (p := ⟨g + 1, 3, none⟩) (Nat.le_succ g) _
        generalize w7.setCell ⟨g + 1, 3, none⟩ (.int .u16 (IntKind.u16.wrap (v1 : Int))) = w8 at *
        clear GX7 GR7 B7 x0 x1 x2 x3 x4 x5 y0 y1 y2 y3 y4 y5
        have x0 := cell_row (j := 0) GX8.out rfl
        have x1 := cell_row (j := 1) GX8.out rfl
        have x2 := cell_row (j := 2) GX8.out rfl
        have x3 := cell_row (j := 3) GX8.out rfl
        have x4 := cell_row (j := 4) GX8.out rfl
        have x5 := cell_row (j := 5) GX8.out rfl
        have y0 : (w8).frozen? ⟨g + 1, 0, none⟩ = false := frozen_of_row _ _ _ _ _ GX8.out
        have y1 : (w8).frozen? ⟨g + 1, 1, none⟩ = false := frozen_of_row _ _ _ _ _ GX8.out
        have y2 : (w8).frozen? ⟨g + 1, 2, none⟩ = false := frozen_of_row _ _ _ _ _ GX8.out
        have y3 : (w8).frozen? ⟨g + 1, 3, none⟩ = false := frozen_of_row _ _ _ _ _ GX8.out
        have y4 : (w8).frozen? ⟨g + 1, 4, none⟩ = false := frozen_of_row _ _ _ _ _ GX8.out
        have y5 : (w8).frozen? ⟨g + 1, 5, none⟩ = false := frozen_of_row _ _ _ _ _ GX8.out
        clear GP7
        go_meet
        case rel => exact ⟨okV s1 65535 (okV s0 255 true), ⟨lb', ⟨25, v0 % 256, v1 % 65536, 0⟩, eS⟩, GP8.out, fun h1 h2 => HLS.trans (L.out.yes h1 h2), fun h => by rw [HLS]; exact L.out.no h, L.out.ok, GX8.out, GR8.out, B8.out⟩
      · skip
        have hz0 : z = 0 := by rcases HOZ.out with ⟨h, _⟩ | ⟨_, _, h⟩ <;> omega
        subst hz0
        have hoz : Hid (OZ 1 0) := by show OZ _ _; unfold OZ; omega
        obtain rfl : nv = 1 := by rw [← hwn]; rfl
        obtain ⟨s0, hv0⟩ : ∃ v0, v0 = vs.getD 0 eS := ⟨_, rfl⟩
        have HSV0 : Hid (s0.size ≤ 1000000) := by rw [hv0]; exact HSN.out 0 (by omega)
        have u1 : w3.cell? ⟨b', off' + 1, none⟩ = some (.string s0) := by rw [hv0]; exact HCN.out w3 B3.out 0 (by omega)
        have HV0 := Lib.hid hv0.symm
        clear hv0
        go_wp2_with fail
        refine (HWD.out _).mono ?_
        rintro e w' ⟨rfl, hw⟩
        obtain rfl : w3 = w' := hw.symm
        go_wp2_with fail
        refine (jumps_any 1 w3).mono ?_
        rintro e w' ⟨rfl, hw⟩
        obtain rfl : w3 = w' := hw.symm
        rw [show jumpB 1 = false from rfl]
        have hjb := Lib.hid (show (jumpB 1 && labelB s0) = false from rfl)
        go_wp2_with fail
        have GC3 := cell_row (j := 0) GP3.out rfl
        refine (lval_any s0 4294967295 p 4294967295 true w3 (by have := HSV0.out; omega) (HEW.out _ B3.out) (HTW.out _ B3.out) GP3.out rfl (by decide)).mono ?_
        rintro e w5 ⟨v0, hv0, rfl, hn0, hgp, hbp⟩
        have HN0 := Lib.hid hn0
        have GX5 := Lib.hid ((hbp.block _ hp2).trans GX3.out)
        have GR5 := Lib.hid ((hbp.block _ (Nat.lt_of_succ_lt hp2)).trans GR3.out)
        have GP5 := Lib.hid hgp
        have B5 : Hid (Below g w w5) := B3.out.trans (hbp.mono (Nat.le_of_lt (Nat.lt_of_succ_lt hp2)))
        clear hn0 hgp hbp GC3 GX3 GR3 GP3 B3 x0 x1 x2 x3 x4 x5 y0 y1 y2 y3 y4 y5
        have x0 := cell_row (j := 0) GX5.out rfl
        have x1 := cell_row (j := 1) GX5.out rfl
        have x2 := cell_row (j := 2) GX5.out rfl
        have x3 := cell_row (j := 3) GX5.out rfl
        have x4 := cell_row (j := 4) GX5.out rfl
        have x5 := cell_row (j := 5) GX5.out rfl
        have y0 : (w5).frozen? ⟨g + 1, 0, none⟩ = false := frozen_of_row _ _ _ _ _ GX5.out
        have y1 : (w5).frozen? ⟨g + 1, 1, none⟩ = false := frozen_of_row _ _ _ _ _ GX5.out
        have y2 : (w5).frozen? ⟨g + 1, 2, none⟩ = false := frozen_of_row _ _ _ _ _ GX5.out
        have y3 : (w5).frozen? ⟨g + 1, 3, none⟩ = false := frozen_of_row _ _ _ _ _ GX5.out
        have y4 : (w5).frozen? ⟨g + 1, 4, none⟩ = false := frozen_of_row _ _ _ _ _ GX5.out
        have y5 : (w5).frozen? ⟨g + 1, 5, none⟩ = false := frozen_of_row _ _ _ _ _ GX5.out
        have L := Lib.hid (leafW (lab := lb') (o := 1) (z := 0) (vs := vs) HLK.out lsz hoz.out hnv HV0.out hjb.out hv0 HN0.out)
        go_wp2_with fail
        have GP6 : Hid ((w5.setCell ⟨g + 1, 4, none⟩ (.int .u32 (v0 : Int))).heap[p]? = _) := (heap_setCell_other _ _ _ _ (Nat.ne_of_gt hp2)).trans GP5.out
        have GX6 : Hid ((w5.setCell ⟨g + 1, 4, none⟩ (.int .u32 (v0 : Int))).heap[g + 1]? = some (.cells #[.string lb', .int .u8 1, .int .u8 0, .int .u16 0, .int .u32 (v0 : Int), .string ⟨#[]⟩] 156 (0, 0))) := heap_setCell_same _ _ _ _ _ _ GX5.out
        have GR6 : Hid ((w5.setCell ⟨g + 1, 4, none⟩ (.int .u32 (v0 : Int))).heap[g]? = some (.cells #[.string ⟨#[]⟩, .int .u8 0, .int .u8 0, .int .u16 0, .int .u32 0, .string ⟨#[]⟩] 156 (0, 0))) := (heap_setCell_other _ _ _ _ (Nat.ne_of_lt (Nat.lt_succ_self g))).trans GR5.out
        have B6 : Hid (Below g w (w5.setCell ⟨g + 1, 4, none⟩ (.int .u32 (v0 : Int)))) := B5.out.setCell (p := ⟨g + 1, 4, none⟩) (Nat.le_succ g) _
        generalize w5.setCell ⟨g + 1, 4, none⟩ (.int .u32 (v0 : Int)) = w6 at *
        clear GX5 GR5 B5 x0 x1 x2 x3 x4 x5 y0 y1 y2 y3 y4 y5
        have x0 := cell_row (j := 0) GX6.out rfl
        have x1 := cell_row (j := 1) GX6.out rfl
        have x2 := cell_row (j := 2) GX6.out rfl
        have x3 := cell_row (j := 3) GX6.out rfl
        have x4 := cell_row (j := 4) GX6.out rfl
        have x5 := cell_row (j := 5) GX6.out rfl
        have y0 : (w6).frozen? ⟨g + 1, 0, none⟩ = false := frozen_of_row _ _ _ _ _ GX6.out
        have y1 : (w6).frozen? ⟨g + 1, 1, none⟩ = false := frozen_of_row _ _ _ _ _ GX6.out
        have y2 : (w6).frozen? ⟨g + 1, 2, none⟩ = false := frozen_of_row _ _ _ _ _ GX6.out
        have y3 : (w6).frozen? ⟨g + 1, 3, none⟩ = false := frozen_of_row _ _ _ _ _ GX6.out
        have y4 : (w6).frozen? ⟨g + 1, 4, none⟩ = false := frozen_of_row _ _ _ _ _ GX6.out
        have y5 : (w6).frozen? ⟨g + 1, 5, none⟩ = false := frozen_of_row _ _ _ _ _ GX6.out
        clear GP5
        go_meet
        case rel => exact ⟨okV s0 4294967295 true, ⟨lb', ⟨1, 0, 0, v0⟩, eS⟩, GP6.out, fun h1 h2 => HLS.trans (L.out.yes h1 h2), fun h => by rw [HLS]; exact L.out.no h, L.out.ok, GX6.out, GR6.out, B6.out⟩
      · skip
        have hoz : Hid (OZ 17 z) := by show OZ _ _; unfold OZ; rcases HOZ.out with ⟨h, h'⟩ | ⟨h1, h2, h⟩ <;> omega
        have tz : decide ((0 : Int) < (z : Int)) = true := decide_eq_true (by have := hoz.out; unfold OZ at this; omega)
        have tzn : 0 < z := by have := hoz.out; unfold OZ at this; omega
        obtain rfl : nv = 1 := by rw [← hwn]; rfl
        obtain ⟨s0, hv0⟩ : ∃ v0, v0 = vs.getD 0 eS := ⟨_, rfl⟩
        have HSV0 : Hid (s0.size ≤ 1000000) := by rw [hv0]; exact HSN.out 0 (by omega)
        have u1 : w3.cell? ⟨b', off' + 1, none⟩ = some (.string s0) := by rw [hv0]; exact HCN.out w3 B3.out 0 (by omega)
        have HV0 := Lib.hid hv0.symm
        clear hv0
        go_wp2_with fail
        refine (HWD.out _).mono ?_
        rintro e w' ⟨rfl, hw⟩
        obtain rfl : w3 = w' := hw.symm
        go_wp2_with fail
        refine (jumps_any 17 w3).mono ?_
        rintro e w' ⟨rfl, hw⟩
        obtain rfl : w3 = w' := hw.symm
        rw [show jumpB 17 = false from rfl]
        have hjb := Lib.hid (show (jumpB 17 && labelB s0) = false from rfl)
        go_wp2_with fail
        have GC3 := cell_row (j := 0) GP3.out rfl
        refine (lval_any s0 4294967295 p 4294967295 true w3 (by have := HSV0.out; omega) (HEW.out _ B3.out) (HTW.out _ B3.out) GP3.out rfl (by decide)).mono ?_
        rintro e w5 ⟨v0, hv0, rfl, hn0, hgp, hbp⟩
        have HN0 := Lib.hid hn0
        have GX5 := Lib.hid ((hbp.block _ hp2).trans GX3.out)
        have GR5 := Lib.hid ((hbp.block _ (Nat.lt_of_succ_lt hp2)).trans GR3.out)
        have GP5 := Lib.hid hgp
        have B5 : Hid (Below g w w5) := B3.out.trans (hbp.mono (Nat.le_of_lt (Nat.lt_of_succ_lt hp2)))
        clear hn0 hgp hbp GC3 GX3 GR3 GP3 B3 x0 x1 x2 x3 x4 x5 y0 y1 y2 y3 y4 y5
        have x0 := cell_row (j := 0) GX5.out rfl
        have x1 := cell_row (j := 1) GX5.out rfl
        have x2 := cell_row (j := 2) GX5.out rfl
        have x3 := cell_row (j := 3) GX5.out rfl
        have x4 := cell_row (j := 4) GX5.out rfl
        have x5 := cell_row (j := 5) GX5.out rfl
        have y0 : (w5).frozen? ⟨g + 1, 0, none⟩ = false := frozen_of_row _ _ _ _ _ GX5.out
        have y1 : (w5).frozen? ⟨g + 1, 1, none⟩ = false := frozen_of_row _ _ _ _ _ GX5.out
        have y2 : (w5).frozen? ⟨g + 1, 2, none⟩ = false := frozen_of_row _ _ _ _ _ GX5.out
        have y3 : (w5).frozen? ⟨g + 1, 3, none⟩ = false := frozen_of_row _ _ _ _ _ GX5.out
        have y4 : (w5).frozen? ⟨g + 1, 4, none⟩ = false := frozen_of_row _ _ _ _ _ GX5.out
        have y5 : (w5).frozen? ⟨g + 1, 5, none⟩ = false := frozen_of_row _ _ _ _ _ GX5.out
        have L := Lib.hid (leafW (lab := lb') (o := 17) (z := z) (vs := vs) HLK.out lsz hoz.out hnv HV0.out hjb.out hv0 HN0.out)
        go_wp2_with fail
        have GP6 : Hid ((w5.setCell ⟨g + 1, 4, none⟩ (.int .u32 (v0 : Int))).heap[p]? = _) := (heap_setCell_other _ _ _ _ (Nat.ne_of_gt hp2)).trans GP5.out
        have GX6 : Hid ((w5.setCell ⟨g + 1, 4, none⟩ (.int .u32 (v0 : Int))).heap[g + 1]? = some (.cells #[.string lb', .int .u8 17, .int .u8 (z : Int), .int .u16 0, .int .u32 (v0 : Int), .string ⟨#[]⟩] 156 (0, 0))) := heap_setCell_same _ _ _ _ _ _ GX5.out
        have GR6 : Hid ((w5.setCell ⟨g + 1, 4, none⟩ (.int .u32 (v0 : Int))).heap[g]? = some (.cells #[.string ⟨#[]⟩, .int .u8 0, .int .u8 0, .int .u16 0, .int .u32 0, .string ⟨#[]⟩] 156 (0, 0))) := (heap_setCell_other _ _ _ _ (Nat.ne_of_lt (Nat.lt_succ_self g))).trans GR5.out
        have B6 : Hid (Below g w (w5.setCell ⟨g + 1, 4, none⟩ (.int .u32 (v0 : Int)))) := B5.out.setCell (p := ⟨g + 1, 4, none⟩) (Nat.le_succ g) _
        generalize w5.setCell ⟨g + 1, 4, none⟩ (.int .u32 (v0 : Int)) = w6 at *
        clear GX5 GR5 B5 x0 x1 x2 x3 x4 x5 y0 y1 y2 y3 y4 y5
        have x0 := cell_row (j := 0) GX6.out rfl
        have x1 := cell_row (j := 1) GX6.out rfl
        have x2 := cell_row (j := 2) GX6.out rfl
        have x3 := cell_row (j := 3) GX6.out rfl
        have x4 := cell_row (j := 4) GX6.out rfl
        have x5 := cell_row (j := 5) GX6.out rfl
        have y0 : (w6).frozen? ⟨g + 1, 0, none⟩ = false := frozen_of_row _ _ _ _ _ GX6.out
        have y1 : (w6).frozen? ⟨g + 1, 1, none⟩ = false := frozen_of_row _ _ _ _ _ GX6.out
        have y2 : (w6).frozen? ⟨g + 1, 2, none⟩ = false := frozen_of_row _ _ _ _ _ GX6.out
        have y3 : (w6).frozen? ⟨g + 1, 3, none⟩ = false := frozen_of_row _ _ _ _ _ GX6.out
        have y4 : (w6).frozen? ⟨g + 1, 4, none⟩ = false := frozen_of_row _ _ _ _ _ GX6.out
        have y5 : (w6).frozen? ⟨g + 1, 5, none⟩ = false := frozen_of_row _ _ _ _ _ GX6.out
        clear GP5
        go_meet
        case rel => exact ⟨okV s0 4294967295 true, ⟨lb', ⟨17, z, 0, v0⟩, eS⟩, GP6.out, fun h1 h2 => HLS.trans (L.out.yes h1 h2), fun h => by rw [HLS]; exact L.out.no h, L.out.ok, GX6.out, GR6.out, B6.out⟩
      · skip
        have hoz : Hid (OZ 18 z) := by show OZ _ _; unfold OZ; rcases HOZ.out with ⟨h, h'⟩ | ⟨h1, h2, h⟩ <;> omega
        have tz : decide ((0 : Int) < (z : Int)) = true := decide_eq_true (by have := hoz.out; unfold OZ at this; omega)
        have tzn : 0 < z := by have := hoz.out; unfold OZ at this; omega
        obtain rfl : nv = 1 := by rw [← hwn]; rfl
        obtain ⟨s0, hv0⟩ : ∃ v0, v0 = vs.getD 0 eS := ⟨_, rfl⟩
        have HSV0 : Hid (s0.size ≤ 1000000) := by rw [hv0]; exact HSN.out 0 (by omega)
        have u1 : w3.cell? ⟨b', off' + 1, none⟩ = some (.string s0) := by rw [hv0]; exact HCN.out w3 B3.out 0 (by omega)
        have HV0 := Lib.hid hv0.symm
        clear hv0
        go_wp2_with fail
        refine (HWD.out _).mono ?_
        rintro e w' ⟨rfl, hw⟩
        obtain rfl : w3 = w' := hw.symm
        go_wp2_with fail
        refine (jumps_any 18 w3).mono ?_
        rintro e w' ⟨rfl, hw⟩
        obtain rfl : w3 = w' := hw.symm
        rw [show jumpB 18 = false from rfl]
        have hjb := Lib.hid (show (jumpB 18 && labelB s0) = false from rfl)
        go_wp2_with fail
        have GC3 := cell_row (j := 0) GP3.out rfl
        refine (lval_any s0 4294967295 p 4294967295 true w3 (by have := HSV0.out; omega) (HEW.out _ B3.out) (HTW.out _ B3.out) GP3.out rfl (by decide)).mono ?_
        rintro e w5 ⟨v0, hv0, rfl, hn0, hgp, hbp⟩
        have HN0 := Lib.hid hn0
        have GX5 := Lib.hid ((hbp.block _ hp2).trans GX3.out)
        have GR5 := Lib.hid ((hbp.block _ (Nat.lt_of_succ_lt hp2)).trans GR3.out)
        have GP5 := Lib.hid hgp
        have B5 : Hid (Below g w w5) := B3.out.trans (hbp.mono (Nat.le_of_lt (Nat.lt_of_succ_lt hp2)))
        clear hn0 hgp hbp GC3 GX3 GR3 GP3 B3 x0 x1 x2 x3 x4 x5 y0 y1 y2 y3 y4 y5
        have x0 := cell_row (j := 0) GX5.out rfl
        have x1 := cell_row (j := 1) GX5.out rfl
        have x2 := cell_row (j := 2) GX5.out rfl
        have x3 := cell_row (j := 3) GX5.out rfl
        have x4 := cell_row (j := 4) GX5.out rfl
        have x5 := cell_row (j := 5) GX5.out rfl
        have y0 : (w5).frozen? ⟨g + 1, 0, none⟩ = false := frozen_of_row _ _ _ _ _ GX5.out
        have y1 : (w5).frozen? ⟨g + 1, 1, none⟩ = false := frozen_of_row _ _ _ _ _ GX5.out
        have y2 : (w5).frozen? ⟨g + 1, 2, none⟩ = false := frozen_of_row _ _ _ _ _ GX5.out
        have y3 : (w5).frozen? ⟨g + 1, 3, none⟩ = false := frozen_of_row _ _ _ _ _ GX5.out
        have y4 : (w5).frozen? ⟨g + 1, 4, none⟩ = false := frozen_of_row _ _ _ _ _ GX5.out
        have y5 : (w5).frozen? ⟨g + 1, 5, none⟩ = false := frozen_of_row _ _ _ _ _ GX5.out
        have L := Lib.hid (leafW (lab := lb') (o := 18) (z := z) (vs := vs) HLK.out lsz hoz.out hnv HV0.out hjb.out hv0 HN0.out)
        go_wp2_with fail
        have GP6 : Hid ((w5.setCell ⟨g + 1, 4, none⟩ (.int .u32 (v0 : Int))).heap[p]? = _) := (heap_setCell_other _ _ _ _ (Nat.ne_of_gt hp2)).trans GP5.out
        have GX6 : Hid ((w5.setCell ⟨g + 1, 4, none⟩ (.int .u32 (v0 : Int))).heap[g + 1]? = some (.cells #[.string lb', .int .u8 18, .int .u8 (z : Int), .int .u16 0, .int .u32 (v0 : Int), .string ⟨#[]⟩] 156 (0, 0))) := heap_setCell_same _ _ _ _ _ _ GX5.out
        have GR6 : Hid ((w5.setCell ⟨g + 1, 4, none⟩ (.int .u32 (v0 : Int))).heap[g]? = some (.cells #[.string ⟨#[]⟩, .int .u8 0, .int .u8 0, .int .u16 0, .int .u32 0, .string ⟨#[]⟩] 156 (0, 0))) := (heap_setCell_other _ _ _ _ (Nat.ne_of_lt (Nat.lt_succ_self g))).trans GR5.out
        have B6 : Hid (Below g w (w5.setCell ⟨g + 1, 4, none⟩ (.int .u32 (v0 : Int)))) := B5.out.setCell (p := ⟨g + 1, 4, none⟩) (Nat.le_succ g) _
        generalize w5.setCell ⟨g + 1, 4, none⟩ (.int .u32 (v0 : Int)) = w6 at *
        clear GX5 GR5 B5 x0 x1 x2 x3 x4 x5 y0 y1 y2 y3 y4 y5
        have x0 := cell_row (j := 0) GX6.out rfl
        have x1 := cell_row (j := 1) GX6.out rfl
        have x2 := cell_row (j := 2) GX6.out rfl
        have x3 := cell_row (j := 3) GX6.out rfl
        have x4 := cell_row (j := 4) GX6.out rfl
        have x5 := cell_row (j := 5) GX6.out rfl
        have y0 : (w6).frozen? ⟨g + 1, 0, none⟩ = false := frozen_of_row _ _ _ _ _ GX6.out
        have y1 : (w6).frozen? ⟨g + 1, 1, none⟩ = false := frozen_of_row _ _ _ _ _ GX6.out
        have y2 : (w6).frozen? ⟨g + 1, 2, none⟩ = false := frozen_of_row _ _ _ _ _ GX6.out
        have y3 : (w6).frozen? ⟨g + 1, 3, none⟩ = false := frozen_of_row _ _ _ _ _ GX6.out
        have y4 : (w6).frozen? ⟨g + 1, 4, none⟩ = false := frozen_of_row _ _ _ _ _ GX6.out
        have y5 : (w6).frozen? ⟨g + 1, 5, none⟩ = false := frozen_of_row _ _ _ _ _ GX6.out
        clear GP5
        go_meet
        case rel => exact ⟨okV s0 4294967295 true, ⟨lb', ⟨18, z, 0, v0⟩, eS⟩, GP6.out, fun h1 h2 => HLS.trans (L.out.yes h1 h2), fun h => by rw [HLS]; exact L.out.no h, L.out.ok, GX6.out, GR6.out, B6.out⟩
      · skip
        have hz0 : z = 0 := by rcases HOZ.out with ⟨h, _⟩ | ⟨_, _, h⟩ <;> omega
        subst hz0
        have hoz : Hid (OZ 19 0) := by show OZ _ _; unfold OZ; omega
        obtain rfl : nv = 1 := by rw [← hwn]; rfl
        obtain ⟨s0, hv0⟩ : ∃ v0, v0 = vs.getD 0 eS := ⟨_, rfl⟩
        have HSV0 : Hid (s0.size ≤ 1000000) := by rw [hv0]; exact HSN.out 0 (by omega)
        have u1 : w3.cell? ⟨b', off' + 1, none⟩ = some (.string s0) := by rw [hv0]; exact HCN.out w3 B3.out 0 (by omega)
        have HV0 := Lib.hid hv0.symm
        clear hv0
        go_wp2_with fail
        refine (HWD.out _).mono ?_
        rintro e w' ⟨rfl, hw⟩
        obtain rfl : w3 = w' := hw.symm
        go_wp2_with fail
        refine (jumps_any 19 w3).mono ?_
        rintro e w' ⟨rfl, hw⟩
        obtain rfl : w3 = w' := hw.symm
        rw [show jumpB 19 = true from rfl]
        go_wp2_with fail
        refine (label_any s0 w3 (by have := HSV0.out; omega)).mono ?_
        rintro e w4 ⟨rfl, hb4⟩
        have GX4 := Lib.hid (kept GX3.out hb4)
        have GR4 := Lib.hid (kept GR3.out hb4)
        have GP4 := Lib.hid (kept GP3.out hb4)
        have B4 : Hid (Below g w w4) := B3.out.trans (hb4.mono (by have := heap_lt GX3.out; omega))
        have u1 : w4.cell? ⟨b', off' + 1, none⟩ = some (.string s0) := by rw [← HV0.out]; exact HCN.out w4 B4.out 0 (by omega)
        clear hb4 GX3 GR3 GP3 B3 x0 x1 x2 x3 x4 x5 y0 y1 y2 y3 y4 y5
        have x0 := cell_row (j := 0) GX4.out rfl
        have x1 := cell_row (j := 1) GX4.out rfl
        have x2 := cell_row (j := 2) GX4.out rfl
        have x3 := cell_row (j := 3) GX4.out rfl
        have x4 := cell_row (j := 4) GX4.out rfl
        have x5 := cell_row (j := 5) GX4.out rfl
        have y0 : (w4).frozen? ⟨g + 1, 0, none⟩ = false := frozen_of_row _ _ _ _ _ GX4.out
        have y1 : (w4).frozen? ⟨g + 1, 1, none⟩ = false := frozen_of_row _ _ _ _ _ GX4.out
        have y2 : (w4).frozen? ⟨g + 1, 2, none⟩ = false := frozen_of_row _ _ _ _ _ GX4.out
        have y3 : (w4).frozen? ⟨g + 1, 3, none⟩ = false := frozen_of_row _ _ _ _ _ GX4.out
        have y4 : (w4).frozen? ⟨g + 1, 4, none⟩ = false := frozen_of_row _ _ _ _ _ GX4.out
        have y5 : (w4).frozen? ⟨g + 1, 5, none⟩ = false := frozen_of_row _ _ _ _ _ GX4.out
        cases hl0 : labelB s0 with
        | true =>
          have L := Lib.hid (leafJ (lab := lb') (o := 19) (vs := vs) HLK.out lsz (by omega) hnv HV0.out hl0 HSV0.out)
          go_wp2_with fail
          have GP6 : Hid ((w4.setCell ⟨g + 1, 5, none⟩ (.string s0)).heap[p]? = _) := (heap_setCell_other _ _ _ _ (Nat.ne_of_gt hp2)).trans GP4.out
          have GX6 : Hid ((w4.setCell ⟨g + 1, 5, none⟩ (.string s0)).heap[g + 1]? = some (.cells #[.string lb', .int .u8 19, .int .u8 0, .int .u16 0, .int .u32 0, .string s0] 156 (0, 0))) := heap_setCell_same _ _ _ _ _ _ GX4.out
          have GR6 : Hid ((w4.setCell ⟨g + 1, 5, none⟩ (.string s0)).heap[g]? = some (.cells #[.string ⟨#[]⟩, .int .u8 0, .int .u8 0, .int .u16 0, .int .u32 0, .string ⟨#[]⟩] 156 (0, 0))) := (heap_setCell_other _ _ _ _ (Nat.ne_of_lt (Nat.lt_succ_self g))).trans GR4.out
          have B6 : Hid (Below g w (w4.setCell ⟨g + 1, 5, none⟩ (.string s0))) := B4.out.setCell (p := ⟨g + 1, 5, none⟩) (Nat.le_succ g) _
          generalize w4.setCell ⟨g + 1, 5, none⟩ (.string s0) = w6 at *
          clear GX4 GR4 B4 x0 x1 x2 x3 x4 x5 y0 y1 y2 y3 y4 y5
          have x0 := cell_row (j := 0) GX6.out rfl
          have x1 := cell_row (j := 1) GX6.out rfl
          have x2 := cell_row (j := 2) GX6.out rfl
          have x3 := cell_row (j := 3) GX6.out rfl
          have x4 := cell_row (j := 4) GX6.out rfl
          have x5 := cell_row (j := 5) GX6.out rfl
          have y0 : (w6).frozen? ⟨g + 1, 0, none⟩ = false := frozen_of_row _ _ _ _ _ GX6.out
          have y1 : (w6).frozen? ⟨g + 1, 1, none⟩ = false := frozen_of_row _ _ _ _ _ GX6.out
          have y2 : (w6).frozen? ⟨g + 1, 2, none⟩ = false := frozen_of_row _ _ _ _ _ GX6.out
          have y3 : (w6).frozen? ⟨g + 1, 3, none⟩ = false := frozen_of_row _ _ _ _ _ GX6.out
          have y4 : (w6).frozen? ⟨g + 1, 4, none⟩ = false := frozen_of_row _ _ _ _ _ GX6.out
          have y5 : (w6).frozen? ⟨g + 1, 5, none⟩ = false := frozen_of_row _ _ _ _ _ GX6.out
          clear GP4
          go_meet
          case rel => exact ⟨true, ⟨lb', ⟨19, 0, 0, 0⟩, s0⟩, GP6.out, fun h1 h2 => HLS.trans (L.out.yes h1 h2), fun h => by rw [HLS]; exact L.out.no h, L.out.ok, GX6.out, GR6.out, B6.out⟩
        | false =>
          have hjb := Lib.hid (show (jumpB 19 && labelB s0) = false by rw [hl0]; rfl)
          go_wp2_with fail
          refine (jumps_any 19 w4).mono ?_
          rintro e w' ⟨rfl, hw⟩
          obtain rfl : w4 = w' := hw.symm
          rw [show jumpB 19 = true from rfl]
          go_wp2_with fail
          have GC4 := cell_row (j := 0) GP4.out rfl
          refine (lval_any s0 4294967295 p 4294967295 true w4 (by have := HSV0.out; omega) (HEW.out _ B4.out) (HTW.out _ B4.out) GP4.out rfl (by decide)).mono ?_
          rintro e w5 ⟨v0, hv0, rfl, hn0, hgp, hbp⟩
          have HN0 := Lib.hid hn0
          have GX5 := Lib.hid ((hbp.block _ hp2).trans GX4.out)
          have GR5 := Lib.hid ((hbp.block _ (Nat.lt_of_succ_lt hp2)).trans GR4.out)
          have GP5 := Lib.hid hgp
          have B5 : Hid (Below g w w5) := B4.out.trans (hbp.mono (Nat.le_of_lt (Nat.lt_of_succ_lt hp2)))
          clear hn0 hgp hbp GC4 GX4 GR4 GP4 B4 x0 x1 x2 x3 x4 x5 y0 y1 y2 y3 y4 y5
          have x0 := cell_row (j := 0) GX5.out rfl
          have x1 := cell_row (j := 1) GX5.out rfl
          have x2 := cell_row (j := 2) GX5.out rfl
          have x3 := cell_row (j := 3) GX5.out rfl
          have x4 := cell_row (j := 4) GX5.out rfl
          have x5 := cell_row (j := 5) GX5.out rfl
          have y0 : (w5).frozen? ⟨g + 1, 0, none⟩ = false := frozen_of_row _ _ _ _ _ GX5.out
          have y1 : (w5).frozen? ⟨g + 1, 1, none⟩ = false := frozen_of_row _ _ _ _ _ GX5.out
          have y2 : (w5).frozen? ⟨g + 1, 2, none⟩ = false := frozen_of_row _ _ _ _ _ GX5.out
          have y3 : (w5).frozen? ⟨g + 1, 3, none⟩ = false := frozen_of_row _ _ _ _ _ GX5.out
          have y4 : (w5).frozen? ⟨g + 1, 4, none⟩ = false := frozen_of_row _ _ _ _ _ GX5.out
          have y5 : (w5).frozen? ⟨g + 1, 5, none⟩ = false := frozen_of_row _ _ _ _ _ GX5.out
          have L := Lib.hid (leafW (lab := lb') (o := 19) (z := 0) (vs := vs) HLK.out lsz hoz.out hnv HV0.out hjb.out hv0 HN0.out)
          go_wp2_with fail
          have GP6 : Hid ((w5.setCell ⟨g + 1, 4, none⟩ (.int .u32 (v0 : Int))).heap[p]? = _) := (heap_setCell_other _ _ _ _ (Nat.ne_of_gt hp2)).trans GP5.out
          have GX6 : Hid ((w5.setCell ⟨g + 1, 4, none⟩ (.int .u32 (v0 : Int))).heap[g + 1]? = some (.cells #[.string lb', .int .u8 19, .int .u8 0, .int .u16 0, .int .u32 (v0 : Int), .string ⟨#[]⟩] 156 (0, 0))) := heap_setCell_same _ _ _ _ _ _ GX5.out
          have GR6 : Hid ((w5.setCell ⟨g + 1, 4, none⟩ (.int .u32 (v0 : Int))).heap[g]? = some (.cells #[.string ⟨#[]⟩, .int .u8 0, .int .u8 0, .int .u16 0, .int .u32 0, .string ⟨#[]⟩] 156 (0, 0))) := (heap_setCell_other _ _ _ _ (Nat.ne_of_lt (Nat.lt_succ_self g))).trans GR5.out
          have B6 : Hid (Below g w (w5.setCell ⟨g + 1, 4, none⟩ (.int .u32 (v0 : Int)))) := B5.out.setCell (p := ⟨g + 1, 4, none⟩) (Nat.le_succ g) _
          generalize w5.setCell ⟨g + 1, 4, none⟩ (.int .u32 (v0 : Int)) = w6 at *
          clear GX5 GR5 B5 x0 x1 x2 x3 x4 x5 y0 y1 y2 y3 y4 y5
          have x0 := cell_row (j := 0) GX6.out rfl
          have x1 := cell_row (j := 1) GX6.out rfl
          have x2 := cell_row (j := 2) GX6.out rfl
          have x3 := cell_row (j := 3) GX6.out rfl
          have x4 := cell_row (j := 4) GX6.out rfl
          have x5 := cell_row (j := 5) GX6.out rfl
          have y0 : (w6).frozen? ⟨g + 1, 0, none⟩ = false := frozen_of_row _ _ _ _ _ GX6.out
          have y1 : (w6).frozen? ⟨g + 1, 1, none⟩ = false := frozen_of_row _ _ _ _ _ GX6.out
          have y2 : (w6).frozen? ⟨g + 1, 2, none⟩ = false := frozen_of_row _ _ _ _ _ GX6.out
          have y3 : (w6).frozen? ⟨g + 1, 3, none⟩ = false := frozen_of_row _ _ _ _ _ GX6.out
          have y4 : (w6).frozen? ⟨g + 1, 4, none⟩ = false := frozen_of_row _ _ _ _ _ GX6.out
          have y5 : (w6).frozen? ⟨g + 1, 5, none⟩ = false := frozen_of_row _ _ _ _ _ GX6.out
          clear GP5
          go_meet
          case rel => exact ⟨okV s0 4294967295 true, ⟨lb', ⟨19, 0, 0, v0⟩, eS⟩, GP6.out, fun h1 h2 => HLS.trans (L.out.yes h1 h2), fun h => by rw [HLS]; exact L.out.no h, L.out.ok, GX6.out, GR6.out, B6.out⟩
      · skip
        have hz0 : z = 0 := by rcases HOZ.out with ⟨h, _⟩ | ⟨_, _, h⟩ <;> omega
        subst hz0
        have hoz : Hid (OZ 20 0) := by show OZ _ _; unfold OZ; omega
        obtain rfl : nv = 1 := by rw [← hwn]; rfl
        obtain ⟨s0, hv0⟩ : ∃ v0, v0 = vs.getD 0 eS := ⟨_, rfl⟩
        have HSV0 : Hid (s0.size ≤ 1000000) := by rw [hv0]; exact HSN.out 0 (by omega)
        have u1 : w3.cell? ⟨b', off' + 1, none⟩ = some (.string s0) := by rw [hv0]; exact HCN.out w3 B3.out 0 (by omega)
        have HV0 := Lib.hid hv0.symm
        clear hv0
        go_wp2_with fail
        refine (HWD.out _).mono ?_
        rintro e w' ⟨rfl, hw⟩
        obtain rfl : w3 = w' := hw.symm
        go_wp2_with fail
        refine (jumps_any 20 w3).mono ?_
        rintro e w' ⟨rfl, hw⟩
        obtain rfl : w3 = w' := hw.symm
        rw [show jumpB 20 = true from rfl]
        go_wp2_with fail
        refine (label_any s0 w3 (by have := HSV0.out; omega)).mono ?_
        rintro e w4 ⟨rfl, hb4⟩
        have GX4 := Lib.hid (kept GX3.out hb4)
        have GR4 := Lib.hid (kept GR3.out hb4)
        have GP4 := Lib.hid (kept GP3.out hb4)
        have B4 : Hid (Below g w w4) := B3.out.trans (hb4.mono (by have := heap_lt GX3.out; omega))
        have u1 : w4.cell? ⟨b', off' + 1, none⟩ = some (.string s0) := by rw [← HV0.out]; exact HCN.out w4 B4.out 0 (by omega)
        clear hb4 GX3 GR3 GP3 B3 x0 x1 x2 x3 x4 x5 y0 y1 y2 y3 y4 y5
        have x0 := cell_row (j := 0) GX4.out rfl
        have x1 := cell_row (j := 1) GX4.out rfl
        have x2 := cell_row (j := 2) GX4.out rfl
        have x3 := cell_row (j := 3) GX4.out rfl
        have x4 := cell_row (j := 4) GX4.out rfl
        have x5 := cell_row (j := 5) GX4.out rfl
        have y0 : (w4).frozen? ⟨g + 1, 0, none⟩ = false := frozen_of_row _ _ _ _ _ GX4.out
        have y1 : (w4).frozen? ⟨g + 1, 1, none⟩ = false := frozen_of_row _ _ _ _ _ GX4.out
        have y2 : (w4).frozen? ⟨g + 1, 2, none⟩ = false := frozen_of_row _ _ _ _ _ GX4.out
        have y3 : (w4).frozen? ⟨g + 1, 3, none⟩ = false := frozen_of_row _ _ _ _ _ GX4.out
        have y4 : (w4).frozen? ⟨g + 1, 4, none⟩ = false := frozen_of_row _ _ _ _ _ GX4.out
        have y5 : (w4).frozen? ⟨g + 1, 5, none⟩ = false := frozen_of_row _ _ _ _ _ GX4.out
        cases hl0 : labelB s0 with
        | true =>
          have L := Lib.hid (leafJ (lab := lb') (o := 20) (vs := vs) HLK.out lsz (by omega) hnv HV0.out hl0 HSV0.out)
          go_wp2_with fail
          have GP6 : Hid ((w4.setCell ⟨g + 1, 5, none⟩ (.string s0)).heap[p]? = _) := (heap_setCell_other _ _ _ _ (Nat.ne_of_gt hp2)).trans GP4.out
          have GX6 : Hid ((w4.setCell ⟨g + 1, 5, none⟩ (.string s0)).heap[g + 1]? = some (.cells #[.string lb', .int .u8 20, .int .u8 0, .int .u16 0, .int .u32 0, .string s0] 156 (0, 0))) := heap_setCell_same _ _ _ _ _ _ GX4.out
          have GR6 : Hid ((w4.setCell ⟨g + 1, 5, none⟩ (.string s0)).heap[g]? = some (.cells #[.string ⟨#[]⟩, .int .u8 0, .int .u8 0, .int .u16 0, .int .u32 0, .string ⟨#[]⟩] 156 (0, 0))) := (heap_setCell_other _ _ _ _ (Nat.ne_of_lt (Nat.lt_succ_self g))).trans GR4.out
          have B6 : Hid (Below g w (w4.setCell ⟨g + 1, 5, none⟩ (.string s0))) := B4.out.setCell (p := ⟨g + 1, 5, none⟩) (Nat.le_succ g) _
          generalize w4.setCell ⟨g + 1, 5, none⟩ (.string s0) = w6 at *
          clear GX4 GR4 B4 x0 x1 x2 x3 x4 x5 y0 y1 y2 y3 y4 y5
          have x0 := cell_row (j := 0) GX6.out rfl
          have x1 := cell_row (j := 1) GX6.out rfl
          have x2 := cell_row (j := 2) GX6.out rfl
          have x3 := cell_row (j := 3) GX6.out rfl
          have x4 := cell_row (j := 4) GX6.out rfl
          have x5 := cell_row (j := 5) GX6.out rfl
          have y0 : (w6).frozen? ⟨g + 1, 0, none⟩ = false := frozen_of_row _ _ _ _ _ GX6.out
          have y1 : (w6).frozen? ⟨g + 1, 1, none⟩ = false := frozen_of_row _ _ _ _ _ GX6.out
          have y2 : (w6).frozen? ⟨g + 1, 2, none⟩ = false := frozen_of_row _ _ _ _ _ GX6.out
          have y3 : (w6).frozen? ⟨g + 1, 3, none⟩ = false := frozen_of_row _ _ _ _ _ GX6.out
          have y4 : (w6).frozen? ⟨g + 1, 4, none⟩ = false := frozen_of_row _ _ _ _ _ GX6.out
          have y5 : (w6).frozen? ⟨g + 1, 5, none⟩ = false := frozen_of_row _ _ _ _ _ GX6.out
          clear GP4
          go_meet
          case rel => exact ⟨true, ⟨lb', ⟨20, 0, 0, 0⟩, s0⟩, GP6.out, fun h1 h2 => HLS.trans (L.out.yes h1 h2), fun h => by rw [HLS]; exact L.out.no h, L.out.ok, GX6.out, GR6.out, B6.out⟩
        | false =>
          have hjb := Lib.hid (show (jumpB 20 && labelB s0) = false by rw [hl0]; rfl)
          go_wp2_with fail
          refine (jumps_any 20 w4).mono ?_
          rintro e w' ⟨rfl, hw⟩
          obtain rfl : w4 = w' := hw.symm
          rw [show jumpB 20 = true from rfl]
          go_wp2_with fail
          have GC4 := cell_row (j := 0) GP4.out rfl
          refine (lval_any s0 4294967295 p 4294967295 true w4 (by have := HSV0.out; omega) (HEW.out _ B4.out) (HTW.out _ B4.out) GP4.out rfl (by decide)).mono ?_
          rintro e w5 ⟨v0, hv0, rfl, hn0, hgp, hbp⟩
          have HN0 := Lib.hid hn0
          have GX5 := Lib.hid ((hbp.block _ hp2).trans GX4.out)
          have GR5 := Lib.hid ((hbp.block _ (Nat.lt_of_succ_lt hp2)).trans GR4.out)
          have GP5 := Lib.hid hgp
          have B5 : Hid (Below g w w5) := B4.out.trans (hbp.mono (Nat.le_of_lt (Nat.lt_of_succ_lt hp2)))
          clear hn0 hgp hbp GC4 GX4 GR4 GP4 B4 x0 x1 x2 x3 x4 x5 y0 y1 y2 y3 y4 y5
          have x0 := cell_row (j := 0) GX5.out rfl
          have x1 := cell_row (j := 1) GX5.out rfl
          have x2 := cell_row (j := 2) GX5.out rfl
          have x3 := cell_row (j := 3) GX5.out rfl
          have x4 := cell_row (j := 4) GX5.out rfl
          have x5 := cell_row (j := 5) GX5.out rfl
          have y0 : (w5).frozen? ⟨g + 1, 0, none⟩ = false := frozen_of_row _ _ _ _ _ GX5.out
          have y1 : (w5).frozen? ⟨g + 1, 1, none⟩ = false := frozen_of_row _ _ _ _ _ GX5.out
          have y2 : (w5).frozen? ⟨g + 1, 2, none⟩ = false := frozen_of_row _ _ _ _ _ GX5.out
          have y3 : (w5).frozen? ⟨g + 1, 3, none⟩ = false := frozen_of_row _ _ _ _ _ GX5.out
          have y4 : (w5).frozen? ⟨g + 1, 4, none⟩ = false := frozen_of_row _ _ _ _ _ GX5.out
          have y5 : (w5).frozen? ⟨g + 1, 5, none⟩ = false := frozen_of_row _ _ _ _ _ GX5.out
          have L := Lib.hid (leafW (lab := lb') (o := 20) (z := 0) (vs := vs) HLK.out lsz hoz.out hnv HV0.out hjb.out hv0 HN0.out)
          go_wp2_with fail
          have GP6 : Hid ((w5.setCell ⟨g + 1, 4, none⟩ (.int .u32 (v0 : Int))).heap[p]? = _) := (heap_setCell_other _ _ _ _ (Nat.ne_of_gt hp2)).trans GP5.out
          have GX6 : Hid ((w5.setCell ⟨g + 1, 4, none⟩ (.int .u32 (v0 : Int))).heap[g + 1]? = some (.cells #[.string lb', .int .u8 20, .int .u8 0, .int .u16 0, .int .u32 (v0 : Int), .string ⟨#[]⟩] 156 (0, 0))) := heap_setCell_same _ _ _ _ _ _ GX5.out
          have GR6 : Hid ((w5.setCell ⟨g + 1, 4, none⟩ (.int .u32 (v0 : Int))).heap[g]? = some (.cells #[.string ⟨#[]⟩, .int .u8 0, .int .u8 0, .int .u16 0, .int .u32 0, .string ⟨#[]⟩] 156 (0, 0))) := (heap_setCell_other _ _ _ _ (Nat.ne_of_lt (Nat.lt_succ_self g))).trans GR5.out
          have B6 : Hid (Below g w (w5.setCell ⟨g + 1, 4, none⟩ (.int .u32 (v0 : Int)))) := B5.out.setCell (p := ⟨g + 1, 4, none⟩) (Nat.le_succ g) _
          generalize w5.setCell ⟨g + 1, 4, none⟩ (.int .u32 (v0 : Int)) = w6 at *
          clear GX5 GR5 B5 x0 x1 x2 x3 x4 x5 y0 y1 y2 y3 y4 y5
          have x0 := cell_row (j := 0) GX6.out rfl
          have x1 := cell_row (j := 1) GX6.out rfl
          have x2 := cell_row (j := 2) GX6.out rfl
          have x3 := cell_row (j := 3) GX6.out rfl
          have x4 := cell_row (j := 4) GX6.out rfl
          have x5 := cell_row (j := 5) GX6.out rfl
          have y0 : (w6).frozen? ⟨g + 1, 0, none⟩ = false := frozen_of_row _ _ _ _ _ GX6.out
          have y1 : (w6).frozen? ⟨g + 1, 1, none⟩ = false := frozen_of_row _ _ _ _ _ GX6.out
          have y2 : (w6).frozen? ⟨g + 1, 2, none⟩ = false := frozen_of_row _ _ _ _ _ GX6.out
          have y3 : (w6).frozen? ⟨g + 1, 3, none⟩ = false := frozen_of_row _ _ _ _ _ GX6.out
          have y4 : (w6).frozen? ⟨g + 1, 4, none⟩ = false := frozen_of_row _ _ _ _ _ GX6.out
          have y5 : (w6).frozen? ⟨g + 1, 5, none⟩ = false := frozen_of_row _ _ _ _ _ GX6.out
          clear GP5
          go_meet
          case rel => exact ⟨okV s0 4294967295 true, ⟨lb', ⟨20, 0, 0, v0⟩, eS⟩, GP6.out, fun h1 h2 => HLS.trans (L.out.yes h1 h2), fun h => by rw [HLS]; exact L.out.no h, L.out.ok, GX6.out, GR6.out, B6.out⟩
      · skip
        have hz0 : z = 0 := by rcases HOZ.out with ⟨h, _⟩ | ⟨_, _, h⟩ <;> omega
        subst hz0
        obtain rfl : nv = 1 := by rw [← hwn]; rfl
        obtain ⟨s0, hv0⟩ : ∃ v0, v0 = vs.getD 0 eS := ⟨_, rfl⟩
        have HSV0 : Hid (s0.size ≤ 1000000) := by rw [hv0]; exact HSN.out 0 (by omega)
        have u1 : w3.cell? ⟨b', off' + 1, none⟩ = some (.string s0) := by rw [hv0]; exact HCN.out w3 B3.out 0 (by omega)
        have HV0 := Lib.hid hv0.symm
        clear hv0
        go_wp2_with fail
        refine (HWD.out _).mono ?_
        rintro e w' ⟨rfl, hw⟩
        obtain rfl : w3 = w' := hw.symm
        go_wp2_with fail
        refine (jumps_any 21 w3).mono ?_
        rintro e w' ⟨rfl, hw⟩
        obtain rfl : w3 = w' := hw.symm
        rw [show jumpB 21 = false from rfl]
        go_wp2_with fail
        refine (jumps_any 21 w3).mono ?_
        rintro e w' ⟨rfl, hw⟩
        obtain rfl : w3 = w' := hw.symm
        rw [show jumpB 21 = false from rfl]
        go_wp2_with fail
        have GC3 := cell_row (j := 0) GP3.out rfl
        refine (lval_any s0 255 p 255 true w3 (by have := HSV0.out; omega) (HEW.out _ B3.out) (HTW.out _ B3.out) GP3.out rfl (by decide)).mono ?_
        rintro e w5 ⟨v0, hv0, rfl, hn0, hgp, hbp⟩
        have HN0 := Lib.hid hn0
        have GX5 := Lib.hid ((hbp.block _ hp2).trans GX3.out)
        have GR5 := Lib.hid ((hbp.block _ (Nat.lt_of_succ_lt hp2)).trans GR3.out)
        have GP5 := Lib.hid hgp
        have B5 : Hid (Below g w w5) := B3.out.trans (hbp.mono (Nat.le_of_lt (Nat.lt_of_succ_lt hp2)))
        clear hn0 hgp hbp GC3 GX3 GR3 GP3 B3 x0 x1 x2 x3 x4 x5 y0 y1 y2 y3 y4 y5
        have x0 := cell_row (j := 0) GX5.out rfl
        have x1 := cell_row (j := 1) GX5.out rfl
        have x2 := cell_row (j := 2) GX5.out rfl
        have x3 := cell_row (j := 3) GX5.out rfl
        have x4 := cell_row (j := 4) GX5.out rfl
        have x5 := cell_row (j := 5) GX5.out rfl
        have y0 : (w5).frozen? ⟨g + 1, 0, none⟩ = false := frozen_of_row _ _ _ _ _ GX5.out
        have y1 : (w5).frozen? ⟨g + 1, 1, none⟩ = false := frozen_of_row _ _ _ _ _ GX5.out
        have y2 : (w5).frozen? ⟨g + 1, 2, none⟩ = false := frozen_of_row _ _ _ _ _ GX5.out
        have y3 : (w5).frozen? ⟨g + 1, 3, none⟩ = false := frozen_of_row _ _ _ _ _ GX5.out
        have y4 : (w5).frozen? ⟨g + 1, 4, none⟩ = false := frozen_of_row _ _ _ _ _ GX5.out
        have y5 : (w5).frozen? ⟨g + 1, 5, none⟩ = false := frozen_of_row _ _ _ _ _ GX5.out
        go_upto_region 16 with fail
        have GP6 : Hid ((w5.setCell ⟨g + 1, 2, none⟩ (.int .u8 ((v0 : Int) % 256))).heap[p]? = _) := (heap_setCell_other _ _ _ _ (Nat.ne_of_gt hp2)).trans GP5.out
        have GX6 : Hid ((w5.setCell ⟨g + 1, 2, none⟩ (.int .u8 ((v0 : Int) % 256))).heap[g + 1]? = some (.cells #[.string lb', .int .u8 21, .int .u8 ((v0 : Int) % 256), .int .u16 0, .int .u32 0, .string ⟨#[]⟩] 156 (0, 0))) := heap_setCell_same _ _ _ _ _ _ GX5.out
        have GR6 : Hid ((w5.setCell ⟨g + 1, 2, none⟩ (.int .u8 ((v0 : Int) % 256))).heap[g]? = some (.cells #[.string ⟨#[]⟩, .int .u8 0, .int .u8 0, .int .u16 0, .int .u32 0, .string ⟨#[]⟩] 156 (0, 0))) := (heap_setCell_other _ _ _ _ (Nat.ne_of_lt (Nat.lt_succ_self g))).trans GR5.out
        have B6 : Hid (Below g w (w5.setCell ⟨g + 1, 2, none⟩ (.int .u8 ((v0 : Int) % 256)))) := B5.out.setCell (p := ⟨g + 1, 2, none⟩) (Nat.le_succ g) _
        generalize w5.setCell ⟨g + 1, 2, none⟩ (.int .u8 ((v0 : Int) % 256)) = w6 at *
        clear GX5 GR5 B5 x0 x1 x2 x3 x4 x5 y0 y1 y2 y3 y4 y5
        have x0 := cell_row (j := 0) GX6.out rfl
        have x1 := cell_row (j := 1) GX6.out rfl
        have x2 := cell_row (j := 2) GX6.out rfl
        have x3 := cell_row (j := 3) GX6.out rfl
        have x4 := cell_row (j := 4) GX6.out rfl
        have x5 := cell_row (j := 5) GX6.out rfl
        have y0 : (w6).frozen? ⟨g + 1, 0, none⟩ = false := frozen_of_row _ _ _ _ _ GX6.out
        have y1 : (w6).frozen? ⟨g + 1, 1, none⟩ = false := frozen_of_row _ _ _ _ _ GX6.out
        have y2 : (w6).frozen? ⟨g + 1, 2, none⟩ = false := frozen_of_row _ _ _ _ _ GX6.out
        have y3 : (w6).frozen? ⟨g + 1, 3, none⟩ = false := frozen_of_row _ _ _ _ _ GX6.out
        have y4 : (w6).frozen? ⟨g + 1, 4, none⟩ = false := frozen_of_row _ _ _ _ _ GX6.out
        have y5 : (w6).frozen? ⟨g + 1, 5, none⟩ = false := frozen_of_row _ _ _ _ _ GX6.out
        clear GP5
        have L := Lib.hid (leafS (lab := lb') (o := 21) (vs := vs) HLK.out lsz (by omega) hnv HV0.out HN0.out)
        go_wp2_with fail
        refine (HWD.out _).mono ?_
        rintro e w' ⟨rfl, hw⟩
        obtain rfl : w6 = w' := hw.symm
        go_wp2_with fail
        go_meet
        case rel => exact ⟨okV s0 255 true, ⟨lb', ⟨21, v0 % 256, 0, 0⟩, eS⟩, GP6.out, fun h1 h2 => HLS.trans (L.out.yes h1 h2), fun h => by rw [HLS]; exact L.out.no h, L.out.ok, GX6.out, GR6.out, B6.out⟩
      · skip
        have hz0 : z = 0 := by rcases HOZ.out with ⟨h, _⟩ | ⟨_, _, h⟩ <;> omega
        subst hz0
        obtain rfl : nv = 1 := by rw [← hwn]; rfl
        obtain ⟨s0, hv0⟩ : ∃ v0, v0 = vs.getD 0 eS := ⟨_, rfl⟩
        have HSV0 : Hid (s0.size ≤ 1000000) := by rw [hv0]; exact HSN.out 0 (by omega)
        have u1 : w3.cell? ⟨b', off' + 1, none⟩ = some (.string s0) := by rw [hv0]; exact HCN.out w3 B3.out 0 (by omega)
        have HV0 := Lib.hid hv0.symm
        clear hv0
        go_wp2_with fail
        refine (HWD.out _).mono ?_
        rintro e w' ⟨rfl, hw⟩
        obtain rfl : w3 = w' := hw.symm
        go_wp2_with fail
        refine (jumps_any 22 w3).mono ?_
        rintro e w' ⟨rfl, hw⟩
        obtain rfl : w3 = w' := hw.symm
        rw [show jumpB 22 = false from rfl]
        go_wp2_with fail
        refine (jumps_any 22 w3).mono ?_
        rintro e w' ⟨rfl, hw⟩
        obtain rfl : w3 = w' := hw.symm
        rw [show jumpB 22 = false from rfl]
        go_wp2_with fail
        have GC3 := cell_row (j := 0) GP3.out rfl
        refine (lval_any s0 255 p 255 true w3 (by have := HSV0.out; omega) (HEW.out _ B3.out) (HTW.out _ B3.out) GP3.out rfl (by decide)).mono ?_
        rintro e w5 ⟨v0, hv0, rfl, hn0, hgp, hbp⟩
        have HN0 := Lib.hid hn0
        have GX5 := Lib.hid ((hbp.block _ hp2).trans GX3.out)
        have GR5 := Lib.hid ((hbp.block _ (Nat.lt_of_succ_lt hp2)).trans GR3.out)
        have GP5 := Lib.hid hgp
        have B5 : Hid (Below g w w5) := B3.out.trans (hbp.mono (Nat.le_of_lt (Nat.lt_of_succ_lt hp2)))
        clear hn0 hgp hbp GC3 GX3 GR3 GP3 B3 x0 x1 x2 x3 x4 x5 y0 y1 y2 y3 y4 y5
        have x0 := cell_row (j := 0) GX5.out rfl
        have x1 := cell_row (j := 1) GX5.out rfl
        have x2 := cell_row (j := 2) GX5.out rfl
        have x3 := cell_row (j := 3) GX5.out rfl
        have x4 := cell_row (j := 4) GX5.out rfl
        have x5 := cell_row (j := 5) GX5.out rfl
        have y0 : (w5).frozen? ⟨g + 1, 0, none⟩ = false := frozen_of_row _ _ _ _ _ GX5.out
        have y1 : (w5).frozen? ⟨g + 1, 1, none⟩ = false := frozen_of_row _ _ _ _ _ GX5.out
        have y2 : (w5).frozen? ⟨g + 1, 2, none⟩ = false := frozen_of_row _ _ _ _ _ GX5.out
        have y3 : (w5).frozen? ⟨g + 1, 3, none⟩ = false := frozen_of_row _ _ _ _ _ GX5.out
        have y4 : (w5).frozen? ⟨g + 1, 4, none⟩ = false := frozen_of_row _ _ _ _ _ GX5.out
        have y5 : (w5).frozen? ⟨g + 1, 5, none⟩ = false := frozen_of_row _ _ _ _ _ GX5.out
        go_upto_region 16 with fail
        have GP6 : Hid ((w5.setCell ⟨g + 1, 2, none⟩ (.int .u8 ((v0 : Int) % 256))).heap[p]? = _) := (heap_setCell_other _ _ _ _ (Nat.ne_of_gt hp2)).trans GP5.out
        have GX6 : Hid ((w5.setCell ⟨g + 1, 2, none⟩ (.int .u8 ((v0 : Int) % 256))).heap[g + 1]? = some (.cells #[.string lb', .int .u8 22, .int .u8 ((v0 : Int) % 256), .int .u16 0, .int .u32 0, .string ⟨#[]⟩] 156 (0, 0))) := heap_setCell_same _ _ _ _ _ _ GX5.out
        have GR6 : Hid ((w5.setCell ⟨g + 1, 2, none⟩ (.int .u8 ((v0 : Int) % 256))).heap[g]? = some (.cells #[.string ⟨#[]⟩, .int .u8 0, .int .u8 0, .int .u16 0, .int .u32 0, .string ⟨#[]⟩] 156 (0, 0))) := (heap_setCell_other _ _ _ _ (Nat.ne_of_lt (Nat.lt_succ_self g))).trans GR5.out
        have B6 : Hid (Below g w (w5.setCell ⟨g + 1, 2, none⟩ (.int .u8 ((v0 : Int) % 256)))) := B5.out.setCell (p := ⟨g + 1, 2, none⟩) (Nat.le_succ g) _
        generalize w5.setCell ⟨g + 1, 2, none⟩ (.int .u8 ((v0 : Int) % 256)) = w6 at *
        clear GX5 GR5 B5 x0 x1 x2 x3 x4 x5 y0 y1 y2 y3 y4 y5
        have x0 := cell_row (j := 0) GX6.out rfl
        have x1 := cell_row (j := 1) GX6.out rfl
        have x2 := cell_row (j := 2) GX6.out rfl
        have x3 := cell_row (j := 3) GX6.out rfl
        have x4 := cell_row (j := 4) GX6.out rfl
        have x5 := cell_row (j := 5) GX6.out rfl
        have y0 : (w6).frozen? ⟨g + 1, 0, none⟩ = false := frozen_of_row _ _ _ _ _ GX6.out
        have y1 : (w6).frozen? ⟨g + 1, 1, none⟩ = false := frozen_of_row _ _ _ _ _ GX6.out
        have y2 : (w6).frozen? ⟨g + 1, 2, none⟩ = false := frozen_of_row _ _ _ _ _ GX6.out
        have y3 : (w6).frozen? ⟨g + 1, 3, none⟩ = false := frozen_of_row _ _ _ _ _ GX6.out
        have y4 : (w6).frozen? ⟨g + 1, 4, none⟩ = false := frozen_of_row _ _ _ _ _ GX6.out
        have y5 : (w6).frozen? ⟨g + 1, 5, none⟩ = false := frozen_of_row _ _ _ _ _ GX6.out
        clear GP5
        have L := Lib.hid (leafS (lab := lb') (o := 22) (vs := vs) HLK.out lsz (by omega) hnv HV0.out HN0.out)
        go_wp2_with fail
        refine (HWD.out _).mono ?_
        rintro e w' ⟨rfl, hw⟩
        obtain rfl : w6 = w' := hw.symm
        go_wp2_with fail
        go_meet
        case rel => exact ⟨okV s0 255 true, ⟨lb', ⟨22, v0 % 256, 0, 0⟩, eS⟩, GP6.out, fun h1 h2 => HLS.trans (L.out.yes h1 h2), fun h => by rw [HLS]; exact L.out.no h, L.out.ok, GX6.out, GR6.out, B6.out⟩
      · skip
        have hz0 : z = 0 := by rcases HOZ.out with ⟨h, _⟩ | ⟨_, _, h⟩ <;> omega
        subst hz0
        obtain rfl : nv = 1 := by rw [← hwn]; rfl
        obtain ⟨s0, hv0⟩ : ∃ v0, v0 = vs.getD 0 eS := ⟨_, rfl⟩
        have HSV0 : Hid (s0.size ≤ 1000000) := by rw [hv0]; exact HSN.out 0 (by omega)
        have u1 : w3.cell? ⟨b', off' + 1, none⟩ = some (.string s0) := by rw [hv0]; exact HCN.out w3 B3.out 0 (by omega)
        have HV0 := Lib.hid hv0.symm
        clear hv0
        go_wp2_with fail
        refine (HWD.out _).mono ?_
        rintro e w' ⟨rfl, hw⟩
        obtain rfl : w3 = w' := hw.symm
        go_wp2_with fail
        refine (jumps_any 24 w3).mono ?_
        rintro e w' ⟨rfl, hw⟩
        obtain rfl : w3 = w' := hw.symm
        rw [show jumpB 24 = false from rfl]
        go_wp2_with fail
        refine (jumps_any 24 w3).mono ?_
        rintro e w' ⟨rfl, hw⟩
        obtain rfl : w3 = w' := hw.symm
        rw [show jumpB 24 = false from rfl]
        go_wp2_with fail
        have GC3 := cell_row (j := 0) GP3.out rfl
        refine (lval_any s0 255 p 255 true w3 (by have := HSV0.out; omega) (HEW.out _ B3.out) (HTW.out _ B3.out) GP3.out rfl (by decide)).mono ?_
        rintro e w5 ⟨v0, hv0, rfl, hn0, hgp, hbp⟩
        have HN0 := Lib.hid hn0
        have GX5 := Lib.hid ((hbp.block _ hp2).trans GX3.out)
        have GR5 := Lib.hid ((hbp.block _ (Nat.lt_of_succ_lt hp2)).trans GR3.out)
        have GP5 := Lib.hid hgp
        have B5 : Hid (Below g w w5) := B3.out.trans (hbp.mono (Nat.le_of_lt (Nat.lt_of_succ_lt hp2)))
        clear hn0 hgp hbp GC3 GX3 GR3 GP3 B3 x0 x1 x2 x3 x4 x5 y0 y1 y2 y3 y4 y5
        have x0 := cell_row (j := 0) GX5.out rfl
        have x1 := cell_row (j := 1) GX5.out rfl
        have x2 := cell_row (j := 2) GX5.out rfl
        have x3 := cell_row (j := 3) GX5.out rfl
        have x4 := cell_row (j := 4) GX5.out rfl
        have x5 := cell_row (j := 5) GX5.out rfl
        have y0 : (w5).frozen? ⟨g + 1, 0, none⟩ = false := frozen_of_row _ _ _ _ _ GX5.out
        have y1 : (w5).frozen? ⟨g + 1, 1, none⟩ = false := frozen_of_row _ _ _ _ _ GX5.out
        have y2 : (w5).frozen? ⟨g + 1, 2, none⟩ = false := frozen_of_row _ _ _ _ _ GX5.out
        have y3 : (w5).frozen? ⟨g + 1, 3, none⟩ = false := frozen_of_row _ _ _ _ _ GX5.out
        have y4 : (w5).frozen? ⟨g + 1, 4, none⟩ = false := frozen_of_row _ _ _ _ _ GX5.out
        have y5 : (w5).frozen? ⟨g + 1, 5, none⟩ = false := frozen_of_row _ _ _ _ _ GX5.out
        go_upto_region 16 with fail
        have GP6 : Hid ((w5.setCell ⟨g + 1, 2, none⟩ (.int .u8 ((v0 : Int) % 256))).heap[p]? = _) := (heap_setCell_other _ _ _ _ (Nat.ne_of_gt hp2)).trans GP5.out
        have GX6 : Hid ((w5.setCell ⟨g + 1, 2, none⟩ (.int .u8 ((v0 : Int) % 256))).heap[g + 1]? = some (.cells #[.string lb', .int .u8 24, .int .u8 ((v0 : Int) % 256), .int .u16 0, .int .u32 0, .string ⟨#[]⟩] 156 (0, 0))) := heap_setCell_same _ _ _ _ _ _ GX5.out
        have GR6 : Hid ((w5.setCell ⟨g + 1, 2, none⟩ (.int .u8 ((v0 : Int) % 256))).heap[g]? = some (.cells #[.string ⟨#[]⟩, .int .u8 0, .int .u8 0, .int .u16 0, .int .u32 0, .string ⟨#[]⟩] 156 (0, 0))) := (heap_setCell_other _ _ _ _ (Nat.ne_of_lt (Nat.lt_succ_self g))).trans GR5.out
        have B6 : Hid (Below g w (w5.setCell ⟨g + 1, 2, none⟩ (.int .u8 ((v0 : Int) % 256)))) := B5.out.setCell (p := ⟨g + 1, 2, none⟩) (Nat.le_succ g) _
        generalize w5.setCell ⟨g + 1, 2, none⟩ (.int .u8 ((v0 : Int) % 256)) = w6 at *
        clear GX5 GR5 B5 x0 x1 x2 x3 x4 x5 y0 y1 y2 y3 y4 y5
        have x0 := cell_row (j := 0) GX6.out rfl
        have x1 := cell_row (j := 1) GX6.out rfl
        have x2 := cell_row (j := 2) GX6.out rfl
        have x3 := cell_row (j := 3) GX6.out rfl
        have x4 := cell_row (j := 4) GX6.out rfl
        have x5 := cell_row (j := 5) GX6.out rfl
        have y0 : (w6).frozen? ⟨g + 1, 0, none⟩ = false := frozen_of_row _ _ _ _ _ GX6.out
        have y1 : (w6).frozen? ⟨g + 1, 1, none⟩ = false := frozen_of_row _ _ _ _ _ GX6.out
        have y2 : (w6).frozen? ⟨g + 1, 2, none⟩ = false := frozen_of_row _ _ _ _ _ GX6.out
        have y3 : (w6).frozen? ⟨g + 1, 3, none⟩ = false := frozen_of_row _ _ _ _ _ GX6.out
        have y4 : (w6).frozen? ⟨g + 1, 4, none⟩ = false := frozen_of_row _ _ _ _ _ GX6.out
        have y5 : (w6).frozen? ⟨g + 1, 5, none⟩ = false := frozen_of_row _ _ _ _ _ GX6.out
        clear GP5
        have L := Lib.hid (leafS (lab := lb') (o := 24) (vs := vs) HLK.out lsz (by omega) hnv HV0.out HN0.out)
        go_wp2_with fail
        refine (HWD.out _).mono ?_
        rintro e w' ⟨rfl, hw⟩
        obtain rfl : w6 = w' := hw.symm
        go_wp2_with fail
        go_meet
        case rel => exact ⟨okV s0 255 true, ⟨lb', ⟨24, v0 % 256, 0, 0⟩, eS⟩, GP6.out, fun h1 h2 => HLS.trans (L.out.yes h1 h2), fun h => by rw [HLS]; exact L.out.no h, L.out.ok, GX6.out, GR6.out, B6.out⟩
      · skip
        have hz0 : z = 0 := by rcases HOZ.out with ⟨h, _⟩ | ⟨_, _, h⟩ <;> omega
        subst hz0
        obtain rfl : nv = 1 := by rw [← hwn]; rfl
        obtain ⟨s0, hv0⟩ : ∃ v0, v0 = vs.getD 0 eS := ⟨_, rfl⟩
        have HSV0 : Hid (s0.size ≤ 1000000) := by rw [hv0]; exact HSN.out 0 (by omega)
        have u1 : w3.cell? ⟨b', off' + 1, none⟩ = some (.string s0) := by rw [hv0]; exact HCN.out w3 B3.out 0 (by omega)
        have HV0 := Lib.hid hv0.symm
        clear hv0
        go_wp2_with fail
        refine (HWD.out _).mono ?_
        rintro e w' ⟨rfl, hw⟩
        obtain rfl : w3 = w' := hw.symm
        go_wp2_with fail
        refine (jumps_any 26 w3).mono ?_
        rintro e w' ⟨rfl, hw⟩
        obtain rfl : w3 = w' := hw.symm
        rw [show jumpB 26 = false from rfl]
        go_wp2_with fail
        refine (jumps_any 26 w3).mono ?_
        rintro e w' ⟨rfl, hw⟩
        obtain rfl : w3 = w' := hw.symm
        rw [show jumpB 26 = false from rfl]
        go_wp2_with fail
        have GC3 := cell_row (j := 0) GP3.out rfl
        refine (lval_any s0 255 p 255 true w3 (by have := HSV0.out; omega) (HEW.out _ B3.out) (HTW.out _ B3.out) GP3.out rfl (by decide)).mono ?_
        rintro e w5 ⟨v0, hv0, rfl, hn0, hgp, hbp⟩
        have HN0 := Lib.hid hn0
        have GX5 := Lib.hid ((hbp.block _ hp2).trans GX3.out)
        have GR5 := Lib.hid ((hbp.block _ (Nat.lt_of_succ_lt hp2)).trans GR3.out)
        have GP5 := Lib.hid hgp
        have B5 : Hid (Below g w w5) := B3.out.trans (hbp.mono (Nat.le_of_lt (Nat.lt_of_succ_lt hp2)))
        clear hn0 hgp hbp GC3 GX3 GR3 GP3 B3 x0 x1 x2 x3 x4 x5 y0 y1 y2 y3 y4 y5
        have x0 := cell_row (j := 0) GX5.out rfl
        have x1 := cell_row (j := 1) GX5.out rfl
        have x2 := cell_row (j := 2) GX5.out rfl
        have x3 := cell_row (j := 3) GX5.out rfl
        have x4 := cell_row (j := 4) GX5.out rfl
        have x5 := cell_row (j := 5) GX5.out rfl
        have y0 : (w5).frozen? ⟨g + 1, 0, none⟩ = false := frozen_of_row _ _ _ _ _ GX5.out
        have y1 : (w5).frozen? ⟨g + 1, 1, none⟩ = false := frozen_of_row _ _ _ _ _ GX5.out
        have y2 : (w5).frozen? ⟨g + 1, 2, none⟩ = false := frozen_of_row _ _ _ _ _ GX5.out
        have y3 : (w5).frozen? ⟨g + 1, 3, none⟩ = false := frozen_of_row _ _ _ _ _ GX5.out
        have y4 : (w5).frozen? ⟨g + 1, 4, none⟩ = false := frozen_of_row _ _ _ _ _ GX5.out
        have y5 : (w5).frozen? ⟨g + 1, 5, none⟩ = false := frozen_of_row _ _ _ _ _ GX5.out
        go_upto_region 16 with fail
        have GP6 : Hid ((w5.setCell ⟨g + 1, 2, none⟩ (.int .u8 ((v0 : Int) % 256))).heap[p]? = _) := (heap_setCell_other _ _ _ _ (Nat.ne_of_gt hp2)).trans GP5.out
        have GX6 : Hid ((w5.setCell ⟨g + 1, 2, none⟩ (.int .u8 ((v0 : Int) % 256))).heap[g + 1]? = some (.cells #[.string lb', .int .u8 26, .int .u8 ((v0 : Int) % 256), .int .u16 0, .int .u32 0, .string ⟨#[]⟩] 156 (0, 0))) := heap_setCell_same _ _ _ _ _ _ GX5.out
        have GR6 : Hid ((w5.setCell ⟨g + 1, 2, none⟩ (.int .u8 ((v0 : Int) % 256))).heap[g]? = some (.cells #[.string ⟨#[]⟩, .int .u8 0, .int .u8 0, .int .u16 0, .int .u32 0, .string ⟨#[]⟩] 156 (0, 0))) := (heap_setCell_other _ _ _ _ (Nat.ne_of_lt (Nat.lt_succ_self g))).trans GR5.out
        have B6 : Hid (Below g w (w5.setCell ⟨g + 1, 2, none⟩ (.int .u8 ((v0 : Int) % 256)))) := B5.out.setCell (p := ⟨g + 1, 2, none⟩) (Nat.le_succ g) _
        generalize w5.setCell ⟨g + 1, 2, none⟩ (.int .u8 ((v0 : Int) % 256)) = w6 at *
        clear GX5 GR5 B5 x0 x1 x2 x3 x4 x5 y0 y1 y2 y3 y4 y5
        have x0 := cell_row (j := 0) GX6.out rfl
        have x1 := cell_row (j := 1) GX6.out rfl
        have x2 := cell_row (j := 2) GX6.out rfl
        have x3 := cell_row (j := 3) GX6.out rfl
        have x4 := cell_row (j := 4) GX6.out rfl
        have x5 := cell_row (j := 5) GX6.out rfl
        have y0 : (w6).frozen? ⟨g + 1, 0, none⟩ = false := frozen_of_row _ _ _ _ _ GX6.out
        have y1 : (w6).frozen? ⟨g + 1, 1, none⟩ = false := frozen_of_row _ _ _ _ _ GX6.out
        have y2 : (w6).frozen? ⟨g + 1, 2, none⟩ = false := frozen_of_row _ _ _ _ _ GX6.out
        have y3 : (w6).frozen? ⟨g + 1, 3, none⟩ = false := frozen_of_row _ _ _ _ _ GX6.out
        have y4 : (w6).frozen? ⟨g + 1, 4, none⟩ = false := frozen_of_row _ _ _ _ _ GX6.out
        have y5 : (w6).frozen? ⟨g + 1, 5, none⟩ = false := frozen_of_row _ _ _ _ _ GX6.out
        clear GP5
        have L := Lib.hid (leafS (lab := lb') (o := 26) (vs := vs) HLK.out lsz (by omega) hnv HV0.out HN0.out)
        go_wp2_with fail
        refine (HWD.out _).mono ?_
        rintro e w' ⟨rfl, hw⟩
        obtain rfl : w6 = w' := hw.symm
        go_wp2_with fail
        go_meet
        case rel => exact ⟨okV s0 255 true, ⟨lb', ⟨26, v0 % 256, 0, 0⟩, eS⟩, GP6.out, fun h1 h2 => HLS.trans (L.out.yes h1 h2), fun h => by rw [HLS]; exact L.out.no h, L.out.ok, GX6.out, GR6.out, B6.out⟩
    case rest =>
      obtain ⟨ob, y, hgp, HR⟩ := hcut
      clear GX3 GR3 GP3 B3 HSN HCN HOZ HWD HLK HEW HTW HLS
      obtain ⟨hyes, hno, hok, hgx, hgr, hbb⟩ := HR
      have GX0 := Lib.hid hgx; have GR0 := Lib.hid hgr; have B0 := Lib.hid hbb; have GP0 := Lib.hid hgp
      have HY := Lib.hid hyes; have HNO := Lib.hid hno
      have HM := Lib.hid (fun W => alm_any y W hok)
      unfold AL.val AL.cells at HM
      clear hgx hgr hbb hgp hyes hno hok
      obtain ⟨w0, rfl⟩ : ∃ x, x = wc := ⟨wc, rfl⟩
      generalize hym : y.may = ym at *
      obtain ⟨yl, ⟨yo, ya, yb, yc⟩, yt⟩ := y
      simp only at GX0 HM
      have HYM := Lib.hid hym
      clear hym
      have q0 := cell_row (j := 0) GP0.out rfl
      have x0 := cell_row (j := 0) GX0.out rfl
      have x1 := cell_row (j := 1) GX0.out rfl
      have x2 := cell_row (j := 2) GX0.out rfl
      have x3 := cell_row (j := 3) GX0.out rfl
      have x4 := cell_row (j := 4) GX0.out rfl
      have x5 := cell_row (j := 5) GX0.out rfl
      have y0 : (w0).frozen? ⟨g + 1, 0, none⟩ = false := frozen_of_row _ _ _ _ _ GX0.out
      have y1 : (w0).frozen? ⟨g + 1, 1, none⟩ = false := frozen_of_row _ _ _ _ _ GX0.out
      have y2 : (w0).frozen? ⟨g + 1, 2, none⟩ = false := frozen_of_row _ _ _ _ _ GX0.out
      have y3 : (w0).frozen? ⟨g + 1, 3, none⟩ = false := frozen_of_row _ _ _ _ _ GX0.out
      have y4 : (w0).frozen? ⟨g + 1, 4, none⟩ = false := frozen_of_row _ _ _ _ _ GX0.out
      have y5 : (w0).frozen? ⟨g + 1, 5, none⟩ = false := frozen_of_row _ _ _ _ _ GX0.out
      cases ob with
      | false =>
        have h42 := HNO.out rfl
        have r0 := cell_row (j := 0) GR0.out rfl
        have r1 := cell_row (j := 1) GR0.out rfl
        have r2 := cell_row (j := 2) GR0.out rfl
        have r3 := cell_row (j := 3) GR0.out rfl
        have r4 := cell_row (j := 4) GR0.out rfl
        have r5 := cell_row (j := 5) GR0.out rfl
        have z0 : (w0).frozen? ⟨g, 0, none⟩ = false := frozen_of_row _ _ _ _ _ GR0.out
        have z1 : (w0).frozen? ⟨g, 1, none⟩ = false := frozen_of_row _ _ _ _ _ GR0.out
        have z2 : (w0).frozen? ⟨g, 2, none⟩ = false := frozen_of_row _ _ _ _ _ GR0.out
        have z3 : (w0).frozen? ⟨g, 3, none⟩ = false := frozen_of_row _ _ _ _ _ GR0.out
        have z4 : (w0).frozen? ⟨g, 4, none⟩ = false := frozen_of_row _ _ _ _ _ GR0.out
        have z5 : (w0).frozen? ⟨g, 5, none⟩ = false := frozen_of_row _ _ _ _ _ GR0.out
        go_wp2_with fail
        try simp only [Exit.inBlock, Exit.then]
        refine bodyPost_ret (results_cell_tmp rfl _ _ g 156 #[.string yl, .int .u8 (yo : Int), .int .u8 (ya : Int), .int .u16 (yb : Int), .int .u32 (yc : Int), .string yt] (0, 0) _ _ rfl rfl (set6_heap GR0.out rfl _ _ _ _ _ _) Tryz.underlying156 rfl infoA) rfl ?_
        exact ⟨⟨⟨⟨yl, ⟨yo, ya, yb, yc⟩, yt⟩, by rw [h42]; rfl, fun h => by rw [h42] at h; cases h⟩⟩, by rw [hgw]; exact set6_below B0.out (Nat.le_refl g) _ _ _ _ _ _⟩
      | true =>
        have HY2 := Lib.hid (HY.out rfl)
        clear HY
        go_wp2_with fail
        refine (HM.out w0).mono ?_
        clear q0
        rintro e w1 ⟨rfl, hb1⟩
        have GX1 := Lib.hid (kept GX0.out hb1)
        have GR1 := Lib.hid (kept GR0.out hb1)
        have B1 : Hid (Below g w w1) := B0.out.trans (hb1.mono (by have h := B0.out.size; omega))
        clear hb1 GX0 GR0 B0 x0 x1 x2 x3 x4 x5 y0 y1 y2 y3 y4 y5
        have x0 := cell_row (j := 0) GX1.out rfl
        have x1 := cell_row (j := 1) GX1.out rfl
        have x2 := cell_row (j := 2) GX1.out rfl
        have x3 := cell_row (j := 3) GX1.out rfl
        have x4 := cell_row (j := 4) GX1.out rfl
        have x5 := cell_row (j := 5) GX1.out rfl
        have y0 : (w1).frozen? ⟨g + 1, 0, none⟩ = false := frozen_of_row _ _ _ _ _ GX1.out
        have y1 : (w1).frozen? ⟨g + 1, 1, none⟩ = false := frozen_of_row _ _ _ _ _ GX1.out
        have y2 : (w1).frozen? ⟨g + 1, 2, none⟩ = false := frozen_of_row _ _ _ _ _ GX1.out
        have y3 : (w1).frozen? ⟨g + 1, 3, none⟩ = false := frozen_of_row _ _ _ _ _ GX1.out
        have y4 : (w1).frozen? ⟨g + 1, 4, none⟩ = false := frozen_of_row _ _ _ _ _ GX1.out
        have y5 : (w1).frozen? ⟨g + 1, 5, none⟩ = false := frozen_of_row _ _ _ _ _ GX1.out
        cases ym with
        | false =>
          have h42 := HNO.out rfl
          have r0 := cell_row (j := 0) GR1.out rfl
          have r1 := cell_row (j := 1) GR1.out rfl
          have r2 := cell_row (j := 2) GR1.out rfl
          have r3 := cell_row (j := 3) GR1.out rfl
          have r4 := cell_row (j := 4) GR1.out rfl
          have r5 := cell_row (j := 5) GR1.out rfl
          have z0 : (w1).frozen? ⟨g, 0, none⟩ = false := frozen_of_row _ _ _ _ _ GR1.out
          have z1 : (w1).frozen? ⟨g, 1, none⟩ = false := frozen_of_row _ _ _ _ _ GR1.out
          have z2 : (w1).frozen? ⟨g, 2, none⟩ = false := frozen_of_row _ _ _ _ _ GR1.out
          have z3 : (w1).frozen? ⟨g, 3, none⟩ = false := frozen_of_row _ _ _ _ _ GR1.out
          have z4 : (w1).frozen? ⟨g, 4, none⟩ = false := frozen_of_row _ _ _ _ _ GR1.out
          have z5 : (w1).frozen? ⟨g, 5, none⟩ = false := frozen_of_row _ _ _ _ _ GR1.out
          go_wp2_with fail
          try simp only [Exit.inBlock, Exit.then]
          refine bodyPost_ret (results_cell_tmp rfl _ _ g 156 #[.string yl, .int .u8 (yo : Int), .int .u8 (ya : Int), .int .u16 (yb : Int), .int .u32 (yc : Int), .string yt] (0, 0) _ _ rfl rfl (set6_heap GR1.out rfl _ _ _ _ _ _) Tryz.underlying156 rfl infoA) rfl ?_
          exact ⟨⟨⟨⟨yl, ⟨yo, ya, yb, yc⟩, yt⟩, by rw [h42]; rfl, fun h => by rw [h42] at h; cases h⟩⟩, by rw [hgw]; exact set6_below B1.out (Nat.le_refl g) _ _ _ _ _ _⟩
        | true =>
          have hl := HY2.out rfl
          have r0 := cell_row (j := 0) GR1.out rfl
          have r1 := cell_row (j := 1) GR1.out rfl
          have r2 := cell_row (j := 2) GR1.out rfl
          have r3 := cell_row (j := 3) GR1.out rfl
          have r4 := cell_row (j := 4) GR1.out rfl
          have r5 := cell_row (j := 5) GR1.out rfl
          have z0 : (w1).frozen? ⟨g, 0, none⟩ = false := frozen_of_row _ _ _ _ _ GR1.out
          have z1 : (w1).frozen? ⟨g, 1, none⟩ = false := frozen_of_row _ _ _ _ _ GR1.out
          have z2 : (w1).frozen? ⟨g, 2, none⟩ = false := frozen_of_row _ _ _ _ _ GR1.out
          have z3 : (w1).frozen? ⟨g, 3, none⟩ = false := frozen_of_row _ _ _ _ _ GR1.out
          have z4 : (w1).frozen? ⟨g, 4, none⟩ = false := frozen_of_row _ _ _ _ _ GR1.out
          have z5 : (w1).frozen? ⟨g, 5, none⟩ = false := frozen_of_row _ _ _ _ _ GR1.out
          go_wp2_with fail
          try simp only [Exit.inBlock, Exit.then]
          refine bodyPost_ret (results_cell_tmp rfl _ _ g 156 #[.string yl, .int .u8 (yo : Int), .int .u8 (ya : Int), .int .u16 (yb : Int), .int .u32 (yc : Int), .string yt] (0, 0) _ _ rfl rfl (set6_heap GR1.out rfl _ _ _ _ _ _) Tryz.underlying156 rfl infoA) rfl ?_
          exact ⟨⟨⟨⟨yl, ⟨yo, ya, yb, yc⟩, yt⟩, by rw [hl]; rfl, fun h => by rw [hl]⟩⟩, by rw [hgw]; exact set6_below B1.out (Nat.le_refl g) _ _ _ _ _ _⟩
end Go.Proofs.YtdlpgoackmgdkaaGreatDoor
/- Parse. -/
namespace Go.Proofs.YtdlpgoackmgdkaaGreatDoor
open Go.Shelf Go.RowKit Go.WideMaps Go.Maps
set_option linter.unusedVariables false
set_option linter.unusedSimpArgs false
/-- The library's longest needle's cell holds a number. -/
def MaxW (w : World) : Prop := ∃ m : Int, w.cell? ⟨Tryz.laysCut_ren.g 1, 0, none⟩ = some (.int .i64 m)
theorem MaxW.below {w w' : World} (h : MaxW w) (hb : Below w.heap.size w w') : MaxW w' := by
  obtain ⟨m, h1⟩ := h
  exact ⟨m, (hb.cell (Lib.lt_of_cell h1)).trans h1⟩
/-- What the library's calls want of a world. -/
structure LibW (w : World) : Prop where
  err : ErrW w
  tab : TabW w
  max : MaxW w
theorem LibW.below {w w' : World} (h : LibW w) (hb : Below w.heap.size w w') : LibW w' := ⟨h.err.below hb, h.tab.below hb, h.max.below hb⟩
def linesB (s : ByteArray) : List ByteArray := Lib.splitB ⟨#[10]⟩ 0 (Lib.countB s ⟨#[10]⟩) s
theorem linesB_part (s : ByteArray) : linesB s = (partL 10 s.data.toList).map bytesOf := map_bytes (split_part 10 s)
theorem linesB_len (s : ByteArray) : (linesB s).length = Lib.countB s ⟨#[10]⟩ + 1 := Lib.splitB_all ⟨#[10]⟩ (Nat.le_refl 1) 0 _ s rfl
theorem lsplit_any (s : ByteArray) (w : World) (hs : s.size ≤ 524288) (hM : MaxW w) :
    Calls Tryz.prog 69 #[.string s, .string ⟨#[10]⟩] w fun e w' => e = .returned (.slice (some ⟨w.heap.size, 0, none⟩) (linesB s).length (linesB s).length) ∧ w' = w.alloc (.cells ((linesB s).map Value.string).toArray 9) := by
  obtain ⟨m, hm⟩ := hM
  refine (Any.strings_Split Tryz.laysSplit (by kernel_rfl) s ⟨#[10]⟩ m w (by omega) hm (Nat.le_refl 1)).mono ?_
  rintro e w' ⟨h1, h2⟩
  exact ⟨by rw [h1, linesB_len], h2⟩
theorem lcut_any (s : ByteArray) (w : World) (hs : s.size ≤ 524288) (hM : MaxW w) :
    Calls Tryz.prog 68 #[.string s, .string ⟨#[59]⟩] w fun e w' => ∃ (t u : ByteArray) (b : Bool), t = ⟨(Lib.cut s.data.toList [59]).1.toArray⟩ ∧ e = .returned (.tuple #[.string t, .string u, .bool b]) ∧ ∃ n, w' = w.drewN n := by
  obtain ⟨m, hm⟩ := hM
  refine (Any.strings_Cut Tryz.laysCut s ⟨#[59]⟩ m w (by omega) hm).mono ?_
  rintro e w' ⟨h1, h2⟩
  exact ⟨_, _, _, rfl, h1, h2⟩
theorem sp_any (w : World) : PredAt Tryz.prog 89 #[] encR isSp w := fun W r _ => by
  unfold FnGives isSp
  by_cases h : r = 32
  · have t1 : ((r : Int) == 32) = true := beq_iff_eq.2 (by omega)
    go_enter Tryz.func89, Tryz.ntmps89
    go_wp2
    go_ret
    exact ⟨by rw [decide_eq_true h]; rfl, 0, rfl⟩
  · have t1 : ((r : Int) == 32) = false := beq_eq_false_iff_ne.2 (by omega)
    go_enter Tryz.func89, Tryz.ntmps89
    go_wp2
    go_ret
    exact ⟨by rw [decide_eq_false h]; rfl, 0, rfl⟩
theorem ff_any (s t : ByteArray) (w : World) (hs : t.size ≤ 524288) (ht : t = ⟨(Lib.cut s.data.toList [59]).1.toArray⟩) :
    Calls Tryz.prog 88 #[.string t, .func (.func 89) #[] #[]] w fun e w' => OutW w.heap.size w' (wordsB s.data.toList) e ∧ Below w.heap.size w w' := by
  have hg : Lib.goFieldsP isSp t = wordsB s.data.toList := by rw [ht]; exact map_bytes (line_words s)
  have h := Any.strings_FieldsFunc Tryz.laysFF 89 #[] (enters_of Tryz.func89 (by kernel_rfl) rfl) isSp t w (by omega) (sp_any w) (by kernel_rfl) (by kernel_rfl)
  rw [hg] at h
  refine h.mono ?_
  rintro e w' ⟨A, h1, h2, h3, h4⟩
  exact ⟨⟨_, h1, h3⟩, h4⟩
theorem part_len (c : UInt8) : ∀ (l x : List UInt8), x ∈ partL c l → x.length ≤ l.length
  | [], x, h => by simp [partL] at h; subst h; simp
  | b :: r, x, h => by
    unfold partL at h
    by_cases hb : b = c
    · rw [if_pos hb] at h
      rcases List.mem_cons.1 h with rfl | h
      · simp
      · have := part_len c r x h; simp; omega
    · rw [if_neg hb] at h
      cases hp : partL c r with
      | nil => rw [hp] at h; simp at h; subst h; simp
      | cons y t =>
        rw [hp] at h
        rcases List.mem_cons.1 h with rfl | h
        · have := part_len c r y (by rw [hp]; simp); simp; omega
        · have := part_len c r x (by rw [hp]; simp [h]); simp; omega
theorem part_count (c : UInt8) : ∀ l : List UInt8, (partL c l).length ≤ l.length + 1
  | [] => by simp [partL]
  | b :: r => by
    have := part_count c r
    unfold partL
    by_cases hb : b = c
    · rw [if_pos hb]; simp; omega
    · rw [if_neg hb]
      cases hp : partL c r with
      | nil => simp
      | cons y t => rw [hp] at this; simp at this ⊢; omega
theorem line_get (s : ByteArray) {k : Nat} (h : k < (linesB s).length) : ∃ lk, (linesB s)[k]? = some lk ∧ lk.size ≤ s.size ∧ (partL 10 s.data.toList).drop k = lk.data.toList :: (partL 10 s.data.toList).drop (k + 1) := by
  have e := linesB_part s
  have hl : (linesB s).length = (partL 10 s.data.toList).length := by rw [e, List.length_map]
  rw [hl] at h
  refine ⟨bytesOf ((partL 10 s.data.toList)[k]), ?_, ?_, ?_⟩
  · rw [e, List.getElem?_map, List.getElem?_eq_getElem h]; rfl
  · have := part_len 10 s.data.toList _ (List.getElem_mem h)
    rw [← size_list, bytesOf_data, ← size_list]; exact this
  · rw [bytesOf_data, List.drop_eq_getElem_cons h]
set_option maxRecDepth 100000 in
set_option maxHeartbeats 4000000 in
theorem parse_any (s : ByteArray) (w : World) (hs : s.size ≤ 9223372036854775807) (hL : LibW w) :
    Calls Tryz.prog 61 #[.string s] w fun e w' => OutA w.heap.size w' (parseS s.data.toList) e ∧ Below w.heap.size w w' := by
  by_cases hbig : 524288 < s.size
  · have t1 : decide ((524288 : Int) < (s.size : Int)) = true := decide_eq_true (by omega)
    have HR : parseS s.data.toList = ([], 0, 3) := by unfold parseS; rw [if_pos (by rw [size_list]; exact hbig)]
    rw [HR]
    go_enter Tryz.func61, Tryz.ntmps61
    go_wp2_with fail
    go_ret3
    exact ⟨OutA.none _ _ _ _, Below.refl _ _⟩
  have t1 : decide ((524288 : Int) < (s.size : Int)) = false := decide_eq_false (by omega)
  have HR : Hid (parseS s.data.toList = parseG 0 [] ((partL 10 s.data.toList).drop 0)) := by show _ = _; unfold parseS; rw [if_neg (by rw [size_list]; exact hbig)]; rfl
  have hsm : s.size ≤ 524288 := by omega
  have HSP := Lib.hid (lsplit_any s w hsm hL.max)
  have HLG := Lib.hid (fun k (h : k < (linesB s).length) => line_get s h)
  have HLN : Hid ((linesB s).length = (partL 10 s.data.toList).length) := by show _ = _; rw [linesB_part, List.length_map]
  have hN : (linesB s).length ≤ 1000000 := by
    rw [HLN.out]
    have := part_count 10 s.data.toList
    rw [size_list] at this; omega
  have HL := Lib.hid hL
  obtain ⟨i0, hi, hz0, hz1, hz2⟩ := info_parts (show (Tryz.prog.info? 156).map (fun i => (i.zero, i.size, i.bytes)) = some (some (.agg #[.string ⟨#[]⟩, .int .u8 0, .int .u8 0, .int .u16 0, .int .u32 0, .string ⟨#[]⟩]), 6, 40) by kernel_rfl)
  have HIn := Lib.hid hi; have HZ0 := Lib.hid hz0; have HZ1 := Lib.hid hz1; have HZ2 := Lib.hid hz2
  clear hi hz0 hz1 hz2 hbig hs hL
  generalize s.data.toList = l at *
  generalize hsz : s.size = sz at *
  generalize linesB s = lb at *
  go_enter Tryz.func61, Tryz.ntmps61
  go_wp2_with fail
  refine HSP.out.mono ?_
  rintro e w1 ⟨rfl, hw1⟩
  have G1 : Hid (w1.heap[w.heap.size]? = some (.cells (lb.map Value.string).toArray 9 (0, 0))) := by show _ = _; rw [hw1]; exact heap_alloc_new _ _
  have B1 : Hid (Below w.heap.size w w1) := by show Below _ _ _; rw [hw1]; exact alloc_below _ _
  have HL1 := Lib.hid (HL.out.below B1.out)
  clear hw1 HSP HL
  generalize hN2 : lb.length = N at *
  generalize hg0 : w.heap.size = g0 at *
  have HG0 := Lib.hid hg0
  have hgl : g0 < w1.heap.size := heap_lt G1.out
  clear hN2
  go_wp2_with fail
  go_loopw [5, 17] (fun v i wr => ∃ (q : Nat) (acc : List AL) (oa : Option Addr) (oc : Nat), v = .slice oa acc.length oc ∧ q ≤ N ∧ acc.length ≤ 16384 ∧ i = .int .i64 (q : Int) ∧ Hid (parseS l = parseG q acc ((partL 10 l).drop q)) ∧ Hid (wr.ownsRow w1.heap.size 156 6 (.slice oa acc.length oc) acc.length (alVs acc)) ∧ Hid (Below w1.heap.size w1 wr)) (fun _ a _ => N - (intOf a).toNat)
  case atStart => exact ⟨0, [], none, 0, rfl, Nat.zero_le _, Nat.zero_le _, rfl, HR, World.ownsRow_nil _ _ _ _, Below.refl _ _⟩
  case round =>
    clear HR
    obtain ⟨q, acc, oa, oc, rfl, hq, hacc, rfl, HV, HO, HB⟩ := hrel
    rcases Nat.lt_or_ge q N with hq2 | hq2
    case inr =>
      obtain rfl : q = N := by omega
      have t2 : decide ((q : Int) < (q : Int)) = false := by simp
      have HF : Hid (parseS l = (acc, 0, 0)) := by
        have := HV.out
        rw [List.drop_of_length_le (Nat.le_of_eq HLN.out.symm)] at this; exact this
      clear HV
      go_wp2_with fail
      go_ret3
      refine ⟨OutA.low (b := w1.heap.size) ⟨_, by rw [HF.out]; rfl, by rw [HF.out]; exact HO.out⟩ (by rw [HG0.out]; exact Nat.le_of_lt hgl), by rw [HG0.out]; exact B1.out.trans (HB.out.mono (Nat.le_of_lt hgl))⟩
    have t2 : decide ((q : Int) < (N : Int)) = true := decide_eq_true (by omega)
    obtain ⟨lk, hk1, hk2, hk3⟩ := HLG.out q hq2
    have HLK : Hid (lk.data.toList.length ≤ 524288) := by show _ ≤ _; rw [size_list]; omega
    have hls : lk.size ≤ 524288 := by omega
    have HV2 : Hid (parseS l = parseG q acc (lk.data.toList :: (partL 10 l).drop (q + 1))) := by have := HV.out; rw [hk3] at this; exact this
    have c0 : wr.cell? ⟨g0, q, none⟩ = some (.string lk) := (HB.out.cell hgl).trans (cell_row G1.out (by simp [hk1]))
    have HLW := Lib.hid (HL1.out.below HB.out)
    clear hk1 hk2 hk3 HV HLG
    go_wp2_with fail
    refine (lcut_any lk wr hls HLW.out.max).mono ?_
    rintro e w2 ⟨t, u, bb, ht, rfl, nd, hw2⟩
    have HT := Lib.hid ht
    have hts : t.size ≤ 524288 := by
      rw [ht, ← size_list]
      have h1 := aheadL_len 59 lk.data.toList
      have h2 := HLK.out
      rw [← cut_ahead] at h1
      simp; omega
    have O1 : Hid (w2.ownsRow w1.heap.size 156 6 (.slice oa acc.length oc) acc.length (alVs acc)) := by show World.ownsRow _ _ _ _ _ _ _; rw [hw2]; exact HO.out
    have BB1 : Hid (Below w1.heap.size w1 w2) := by show Below _ _ _; rw [hw2]; exact ⟨HB.out.os, HB.out.tape, HB.out.output, HB.out.size, HB.out.block⟩
    clear hw2 ht HO HB c0 HLW
    go_wp2_with fail
    have HFF := Lib.hid (ff_any lk t w2 hts HT.out)
    refine HFF.out.mono ?_
    rintro e w3 ⟨⟨v2, rfl, hown⟩, hb2⟩
    clear HFF HT
    generalize lk.data.toList = lk at *
    have HWS : Hid (∀ i, i < (wordsB lk).length → 0 < ((wordsB lk).getD i eS).size ∧ ((wordsB lk).getD i eS).size ≤ 1000000) := fun i hi => by
      have := wordsB_size i hi
      have := HLK.out
      omega
    obtain ⟨wa, wcap, rfl, hwc, hwm, hsl⟩ := strs_of_own hown
    have HSL := Lib.hid hsl
    clear hown hsl
    have O2 := Lib.hid (own_below O1.out hb2)
    have B2 : Hid (Below w1.heap.size w1 w3) := BB1.out.trans (hb2.mono BB1.out.size)
    clear O1 BB1 hb2
    generalize hrs : (partL 10 l).drop (q + 1) = rs at HV2
    have HRS := Lib.hid hrs
    clear hrs
    have HGB := Lib.hid (fun h => parseG_blank (n := q) (acc := acc) (l := lk) (ls := rs) h)
    have HGX := Lib.hid (fun h1 h2 => parseG_bad (n := q) (acc := acc) (l := lk) (ls := rs) h1 h2)
    have HGL := Lib.hid (fun h1 h2 h3 => parseG_long (n := q) (acc := acc) (l := lk) (ls := rs) h1 h2 h3)
    have HGN := Lib.hid (fun h1 h2 h3 => parseG_line (n := q) (acc := acc) (l := lk) (ls := rs) h1 h2 h3)
    have HWN : Hid ((wordsB lk).length = (wordsL lk).length) := wordsB_len lk
    generalize wordsB lk = ws at *
    by_cases hw0 : ws.length = 0
    · have HV3 : Hid (parseS l = parseG (q + 1) acc (rs)) := HV2.out.trans (HGB.out (List.eq_nil_of_length_eq_zero (HWN.out ▸ hw0)))
      have t5 : ((ws.length : Int) == 0) = true := beq_iff_eq.2 (by omega)
      clear HGB HGX HGL HGN HV2 HSL HWS HWN
      go_wp2_with fail
      refine ⟨⟨q + 1, acc, oa, oc, rfl, by omega, hacc, by go_num, by rw [HRS.out]; exact HV3, O2, B2⟩, ?_⟩
      simp [intOf]; omega
    have hwne := Lib.hid (show wordsL lk ≠ [] from fun e => hw0 (by rw [HWN.out, e]; rfl))
    have t5 : ((ws.length : Int) == 0) = false := beq_eq_false_iff_ne.2 (by omega)
    have HON := Lib.hid (line_any ws wa wcap w3 HSL.out (Nat.pos_of_ne_zero hw0) hwc hwm HWS.out (HL1.out.below B2.out).err (HL1.out.below B2.out).tab)
    clear HGB HSL HWS HWN
    generalize lineS ws = rl at *
    obtain ⟨rc, rx⟩ := rl
    go_wp2_with fail
    refine HON.out.mono ?_
    rintro e' w4 ⟨⟨x, rfl, hx⟩, hb3⟩
    have O3 := Lib.hid (own_below O2.out hb3)
    have B3 : Hid (Below w1.heap.size w1 w4) := B2.out.trans (hb3.mono B2.out.size)
    have HX := Lib.hid hx
    clear hb3 hx O2 B2 HON
    obtain ⟨xl, ⟨xo, xa, xb, xc⟩, xt⟩ := x
    unfold AL.val AL.cells
    by_cases hrc : rc = 0
    · subst hrc
      by_cases hal : acc.length = 16384
      · have HV3 : Hid (parseS l = ([], q + 1, 3)) := HV2.out.trans (HGL.out hwne.out rfl hal)
        have t6 : ((acc.length : Int) == 16384) = true := beq_iff_eq.2 (by omega)
        clear HGX HGN HGL HV2 HX hal
        go_wp2_with fail
        go_ret3
        exact ⟨by rw [HV3.out]; exact OutA.none _ _ _ _, by rw [HG0.out]; exact B1.out.trans ((B3.out.alloc B3.out.size _).mono (Nat.le_of_lt hgl))⟩
      · have HRX : (⟨xl, ⟨xo, xa, xb, xc⟩, xt⟩ : AL) = rx := HX.out rfl
        have HV3 : Hid (parseS l = parseG (q + 1) (acc ++ [⟨xl, ⟨xo, xa, xb, xc⟩, xt⟩]) (rs)) := (HV2.out.trans (HGN.out hwne.out rfl hal)).trans (by rw [HRX])
        have t6 : ((acc.length : Int) == 16384) = false := beq_eq_false_iff_ne.2 (by omega)
        clear HGX HGN HGL HV2 HX HRX
        have G4 : Hid ((w4.alloc (.cells #[.string xl, .int .u8 (xo : Int), .int .u8 (xa : Int), .int .u16 (xb : Int), .int .u32 (xc : Int), .string xt] 156)).heap[w4.heap.size]? = some (.cells #[.string xl, .int .u8 (xo : Int), .int .u8 (xa : Int), .int .u16 (xb : Int), .int .u32 (xc : Int), .string xt] 156 (0, 0))) := heap_alloc_new _ _
        have O4 := Lib.hid (O3.out.alloc (.cells #[.string xl, .int .u8 (xo : Int), .int .u8 (xa : Int), .int .u16 (xb : Int), .int .u32 (xc : Int), .string xt] 156))
        have BB4 : Hid (Below w1.heap.size w1 (w4.alloc (.cells #[.string xl, .int .u8 (xo : Int), .int .u8 (xa : Int), .int .u16 (xb : Int), .int .u32 (xc : Int), .string xt] 156))) := B3.out.alloc B3.out.size _
        go_upto_region 15 with fail
        generalize w4.alloc (.cells #[.string xl, .int .u8 (xo : Int), .int .u8 (xa : Int), .int .u16 (xb : Int), .int .u32 (xc : Int), .string xt] 156) = w5 at *
        generalize w4.heap.size = g at *
        have c0 := cell_row (j := 0) G4.out rfl
        have c1 := cell_row (j := 1) G4.out rfl
        have c2 := cell_row (j := 2) G4.out rfl
        have c3 := cell_row (j := 3) G4.out rfl
        have c4 := cell_row (j := 4) G4.out rfl
        have c5 := cell_row (j := 5) G4.out rfl
        -- the line lies in block g of w5; it is appended
        have HW : Hid (∀ j u, [Value.string xl, .int .u8 (xo : Int), .int .u8 (xa : Int), .int .u16 (xb : Int), .int .u32 (xc : Int), .string xt][j]? = some u → (w5.alloc (.cells #[.string xl, .int .u8 (xo : Int), .int .u8 (xa : Int), .int .u16 (xb : Int), .int .u32 (xc : Int), .string xt] 156)).cell? ((⟨w5.heap.size, 0, none⟩ : Addr).add j) = some u) := six_news _ _ _ _ _ _ _ _
        have OA := Lib.hid (O4.out.alloc (.cells #[.string xl, .int .u8 (xo : Int), .int .u8 (xa : Int), .int .u16 (xb : Int), .int .u32 (xc : Int), .string xt] 156))
        have HZ : Hid (w1.heap.size ≤ w5.heap.size) := BB4.out.size
        go_wp2_with (at_builtin; refine wpList_append_own _ rfl _ _ 121 rfl (w1.heap.size) 156 i0 (.agg #[.string ⟨#[]⟩, .int .u8 0, .int .u8 0, .int .u16 0, .int .u32 0, .string ⟨#[]⟩]) 6 40 Tryz.underlying121 HIn.out HZ0.out HZ1.out HZ2.out rfl (by decide) (.slice oa acc.length oc) acc.length _ rfl OA.out ⟨w5.heap.size, 0, none⟩ 1 1 [.string xl, .int .u8 (xo : Int), .int .u8 (xa : Int), .int .u16 (xb : Int), .int .u32 (xc : Int), .string xt] rfl rfl HW.out (fun u hu => by simp at hu; rcases hu with rfl | rfl | rfl | rfl | rfl | rfl <;> rfl) (by unfold maxLen; omega) (by omega) (by simp; have := HZ.out; omega) ?_)
        intro v6 w6 ho6 hg6 _
        have BB6 : Hid (Below (w1.heap.size) w1 w6) := (BB4.out.alloc BB4.out.size _).grown hg6 (by simp; have := HZ.out; omega) (fun j hj => (O4.out.lt j hj).1)
        have O6 : Hid (w6.ownsRow (w1.heap.size) 156 6 v6 (acc ++ [(⟨xl, ⟨xo, xa, xb, xc⟩, xt⟩ : AL)]).length (alVs (acc ++ [⟨xl, ⟨xo, xa, xb, xc⟩, xt⟩]))) := by
          show World.ownsRow _ _ _ _ _ _ _
          rw [← alVs_snoc, List.length_append]; exact ho6
        clear ho6 hg6 OA HW
        obtain ⟨oa6, oc6, hv6, _, _, _⟩ := als_of_own O6.out
        subst hv6
        go_wp2_with fail
        refine ⟨⟨q + 1, acc ++ [⟨xl, ⟨xo, xa, xb, xc⟩, xt⟩], oa6, oc6, rfl, by omega, by rw [List.length_append]; simp; omega, by go_num, by rw [HRS.out]; exact HV3, O6, BB6⟩, ?_⟩
        simp [intOf]; omega
    · have HV3 : Hid (parseS l = ([], q + 1, rc)) := HV2.out.trans (HGX.out hwne.out hrc)
      have t6 : ((rc : Int) == 0) = false := beq_eq_false_iff_ne.2 (by omega)
      have t7 : ((rc : Int) != 0) = true := bne_iff_ne.2 (by omega)
      clear HGX HGN HGL HV2 HX
      go_wp2_with fail
      go_ret3
      exact ⟨by rw [HV3.out]; exact OutA.none _ _ _ _, by rw [HG0.out]; exact B1.out.trans ((B3.out.alloc B3.out.size _).mono (Nat.le_of_lt hgl))⟩
end Go.Proofs.YtdlpgoackmgdkaaGreatDoor
/- Plain: what is written is parsed as it was; what is parsed is written, and no longer than it was. -/
namespace Go.Proofs.YtdlpgoackmgdkaaGreatDoor
set_option linter.unusedVariables false
set_option linter.unusedSimpArgs false
set_option maxRecDepth 100000
/-! ### numbers -/
theorem fold_mono : ∀ (l : List UInt8) (acc : Nat), acc ≤ l.foldl (fun a b => 10 * a + (b.toNat - 48)) acc
  | [], acc => Nat.le_refl _
  | c :: r, acc => Nat.le_trans (by omega) (fold_mono r (10 * acc + (c.toNat - 48)))
theorem numM_dig : ∀ (l : List UInt8) (acc : Nat), l.all isDig = true → l.foldl (fun a b => 10 * a + (b.toNat - 48)) acc ≤ 4294967295 → numM acc l = some (l.foldl (fun a b => 10 * a + (b.toNat - 48)) acc)
  | [], acc, _, _ => rfl
  | c :: r, acc, h, hm => by
    rw [List.all_cons, Bool.and_eq_true] at h
    have hc := h.1
    unfold isDig at hc; simp at hc
    have := fold_mono r (10 * acc + (c.toNat - 48))
    rw [List.foldl_cons] at hm ⊢
    rw [numM, if_pos hc, if_neg (by omega), numM_dig r _ h.2 hm]
theorem numL_dec (n : Nat) (h : n < 4294967296) : numL (Lib.decDigits n) = some n := by
  have hd : (Lib.decDigits n).all isDig = true := List.all_eq_true.2 (dec_dig n)
  have hv := valD_dec n
  obtain ⟨c, r, he, _⟩ := dec_head n
  have key : numM 0 (Lib.decDigits n) = some n := by
    have := numM_dig (Lib.decDigits n) 0 hd (by show valD _ ≤ _; rw [hv]; omega)
    rw [this]; show some (valD _) = _; rw [hv]
  rw [he] at key ⊢
  show (if c.toNat = 48 ∧ r ≠ [] then none else numM 0 (c :: r)) = some n
  rw [if_neg, key]
  rintro ⟨h1, h2⟩
  by_cases hn : 10 ≤ n
  · obtain ⟨c', r', he', hc', _⟩ := head_dec n hn
    rw [he] at he'
    exact hc' (by rw [← (List.cons.inj he').1]; exact h1)
  · rw [Lib.decDigits, dif_pos (by omega)] at he
    exact h2 (List.cons.inj he).2.symm
/-! ### words without blanks -/
def clean (l : List UInt8) : Prop := ∀ b ∈ l, b ≠ 32 ∧ b ≠ 59 ∧ b ≠ 10
theorem clean.app {l r : List UInt8} (h : clean l) (k : clean r) : clean (l ++ r) := fun b hb => (List.mem_append.1 hb).elim (h b) (k b)
theorem clean_let {l : List UInt8} (h : ∀ b ∈ l, isLet b = true) : clean l := fun b hb => by
  have := h b hb
  unfold isLet at this; simp at this
  refine ⟨?_, ?_, ?_⟩ <;> (rintro rfl; revert this; decide)
theorem clean_dig {l : List UInt8} (h : ∀ b ∈ l, isDig b = true) : clean l := fun b hb => by
  have := h b hb
  unfold isDig at this; simp at this
  refine ⟨?_, ?_, ?_⟩ <;> (rintro rfl; revert this; decide)
theorem clean_lab {l : List UInt8} (h : ∀ b ∈ l, isLab b = true) : clean l := fun b hb => by
  have := h b hb
  refine ⟨?_, ?_, ?_⟩ <;> (rintro rfl; revert this; decide)
theorem clean_58 : clean [58] := fun b hb => by simp at hb; subst hb; decide
theorem clean.no32 {l : List UInt8} (h : clean l) : 32 ∉ l := fun hm => (h 32 hm).1 rfl
theorem clean.no59 {l : List UInt8} (h : clean l) : 59 ∉ l := fun hm => (h 59 hm).2.1 rfl
theorem clean.no10 {l : List UInt8} (h : clean l) : 10 ∉ l := fun hm => (h 10 hm).2.2 rfl
theorem labL_all {l : List UInt8} (h : labL l = true) : l ≠ [] ∧ l.length ≤ 16 ∧ ∀ b ∈ l, isLab b = true := by
  cases l with
  | nil => cases h
  | cons b r =>
    rw [labL_cons, Bool.and_eq_true, Bool.and_eq_true, decide_eq_true_eq] at h
    refine ⟨by simp, by rw [List.length_cons]; omega, fun x hx => ?_⟩
    rcases List.mem_cons.1 hx with rfl | hx
    · unfold isLab; rw [h.1.2]; rfl
    · exact List.all_eq_true.1 h.2 x hx
theorem words_last {q : List UInt8} (h : clean q) (hq : q ≠ []) : wordsG [] q = [q] := by
  have := wordsG_many q h.no32 [] []
  rw [List.append_nil, List.nil_append] at this
  rw [this]; unfold wordsG flushL; rw [if_neg hq]
theorem words_next {q : List UInt8} (h : clean q) (hq : q ≠ []) (r : List UInt8) : wordsG [] (q ++ 32 :: r) = q :: wordsG [] r := by
  rw [wordsG_many q h.no32 [] (32 :: r), List.nil_append, wordsG, if_pos rfl]
  unfold flushL; rw [if_neg hq]
/-- Words with one blank between them. -/
def joinW : List (List UInt8) → List UInt8
  | [] => []
  | [q] => q
  | q :: r => q ++ 32 :: joinW r
theorem joinW_cons (q : List UInt8) (r : List (List UInt8)) (h : r ≠ []) : joinW (q :: r) = q ++ 32 :: joinW r := by
  cases r with
  | nil => exact absurd rfl h
  | cons x t => rfl
theorem words_join : ∀ (ws : List (List UInt8)), (∀ q ∈ ws, clean q ∧ q ≠ []) → wordsG [] (joinW ws) = ws
  | [], _ => rfl
  | [q], h => words_last (h q (by simp)).1 (h q (by simp)).2
  | q :: x :: t, h => by
    rw [joinW_cons q (x :: t) (by simp), words_next (h q (by simp)).1 (h q (by simp)).2, words_join (x :: t) (fun y hy => h y (List.mem_cons_of_mem _ hy))]
theorem join_clean : ∀ (ws : List (List UInt8)), (∀ q ∈ ws, clean q) → 59 ∉ joinW ws ∧ 10 ∉ joinW ws
  | [], _ => ⟨by simp [joinW], by simp [joinW]⟩
  | [q], h => ⟨(h q (by simp)).no59, (h q (by simp)).no10⟩
  | q :: x :: t, h => by
    have ih := join_clean (x :: t) (fun y hy => h y (List.mem_cons_of_mem _ hy))
    have hq := h q (by simp)
    rw [joinW_cons q (x :: t) (by simp)]
    constructor
    · intro hm
      rcases List.mem_append.1 hm with hm | hm
      · exact hq.no59 hm
      · rcases List.mem_cons.1 hm with hm | hm
        · exact absurd hm (by decide)
        · exact ih.1 hm
    · intro hm
      rcases List.mem_append.1 hm with hm | hm
      · exact hq.no10 hm
      · rcases List.mem_cons.1 hm with hm | hm
        · exact absurd hm (by decide)
        · exact ih.2 hm
/-! ### a line's words -/
def labW (x : AL) : List (List UInt8) := if x.lab.toList.isEmpty then [] else [x.lab.data.toList ++ [58]]
def bodW (x : AL) : List (List UInt8) :=
  if x.tgt.toList.isEmpty then
    (if (rowAt x.i.op).nm = 0 then [(rowAt x.i.op).name] else if (rowAt x.i.op).nm = 1 then [(rowAt x.i.op).name, Lib.decDigits x.i.a] else if (rowAt x.i.op).nm = 3 then [(rowAt x.i.op).name, Lib.decDigits x.i.a, Lib.decDigits x.i.b] else if (rowAt x.i.op).nm = 4 then [(rowAt x.i.op).name, Lib.decDigits x.i.c] else [(rowAt x.i.op).name ++ Lib.decDigits x.i.a, Lib.decDigits x.i.c])
  else [(rowAt x.i.op).name, x.tgt.data.toList]
def wordsX (x : AL) : List (List UInt8) := labW x ++ bodW x
theorem empty_list {s : ByteArray} : s.toList.isEmpty = true ↔ s.data.toList = [] := by rw [ByteArray.toList_eq, List.isEmpty_iff]
theorem dec_ne (n : Nat) : Lib.decDigits n ≠ [] := by
  obtain ⟨c, r, he, _⟩ := dec_head n
  rw [he]; simp
theorem bodW_ne (x : AL) : bodW x ≠ [] := by
  unfold bodW
  repeat' split
  all_goals simp
theorem words_ok {x : AL} (h : x.may = true) : ∀ q ∈ wordsX x, clean q ∧ q ≠ [] := by
  obtain ⟨hn, _, _, _⟩ := may_row (may_ins h)
  have cn : clean (rowAt x.i.op).name := clean_let (name_let _)
  have cd : ∀ n, clean (Lib.decDigits n) := fun n => clean_dig (dec_dig n)
  intro q hq
  unfold wordsX at hq
  rcases List.mem_append.1 hq with hq | hq
  · unfold labW at hq
    by_cases he : x.lab.toList.isEmpty = true
    · rw [if_pos he] at hq; cases hq
    · rw [if_neg he] at hq
      simp at hq; subst hq
      have := (may_lab h).resolve_left he
      exact ⟨(clean_lab (labL_all this).2.2).app clean_58, by simp⟩
  · unfold bodW at hq
    by_cases he : x.tgt.toList.isEmpty = true
    · rw [if_pos he] at hq
      have fin : ∀ y, y ∈ [(rowAt x.i.op).name, Lib.decDigits x.i.a, Lib.decDigits x.i.b, Lib.decDigits x.i.c, (rowAt x.i.op).name ++ Lib.decDigits x.i.a] → clean y ∧ y ≠ [] := by
        intro y hy
        simp at hy
        rcases hy with rfl | rfl | rfl | rfl | rfl
        · exact ⟨cn, hn⟩
        · exact ⟨cd _, dec_ne _⟩
        · exact ⟨cd _, dec_ne _⟩
        · exact ⟨cd _, dec_ne _⟩
        · exact ⟨cn.app (cd _), by simp [hn]⟩
      apply fin
      revert hq
      repeat' split
      all_goals (intro hq; simp at hq ⊢; first | (subst hq; simp; done) | (rcases hq with rfl | rfl <;> simp; done) | (rcases hq with rfl | rfl | rfl <;> simp; done))
    · rw [if_neg he] at hq
      have ht := ((may_tgt h).resolve_left he).1.1
      simp at hq
      rcases hq with rfl | rfl
      · exact ⟨cn, hn⟩
      · exact ⟨clean_lab (labL_all ht).2.2, (labL_all ht).1⟩
theorem jump_nm {o : Nat} (h : jumpB o = true) : (rowAt o).nm = 4 ∧ o < 28 := by
  unfold jumpB at h; simp at h
  rcases h with rfl | rfl <;> decide
theorem dec_zero : Lib.decDigits 0 = [48] := by rw [Lib.decDigits, dif_pos (by decide)]; rfl
/-- A line is its words with one blank between them. -/
theorem line_join {x : AL} (h : x.may = true) : labP x ++ bodP x = joinW (wordsX x) := by
  have hb : bodP x = joinW (bodW x) := by
    unfold bodP bodW
    obtain ⟨_, _, _, hnm⟩ := may_row (may_ins h)
    by_cases he : x.tgt.toList.isEmpty = true
    · rw [if_pos he, if_pos he, text_list (may_ins h)]
      unfold tailL
      rcases hnm with e | e | e | e | e <;> rw [e] <;> simp [joinW]
    · rw [if_neg he, if_neg he, text_list (may_ins h)]
      have hj := ((may_tgt h).resolve_left he).1.2
      have hc : x.i.c = 0 := ((may_tgt h).resolve_left he).2
      rw [(jump_nm hj).1, hc]
      show Lib.trimSuffix ((rowAt x.i.op).name ++ (32 :: Lib.decDigits 0)) [48] ++ _ = _
      rw [dec_zero]
      have : Lib.trimSuffix ((rowAt x.i.op).name ++ [32, 48]) [48] = (rowAt x.i.op).name ++ [32] := by
        rw [show (rowAt x.i.op).name ++ [32, 48] = ((rowAt x.i.op).name ++ [32]) ++ [48] by simp]
        unfold Lib.trimSuffix Lib.hasSuffix
        rw [if_pos (by rw [List.isSuffixOf_iff_suffix]; exact ⟨(rowAt x.i.op).name ++ [32], rfl⟩)]
        rw [List.length_append, List.length_singleton, Nat.add_sub_cancel, List.take_left']
        rfl
      rw [this]; simp [joinW]
  rw [hb]
  unfold wordsX labW labP
  by_cases he : x.lab.toList.isEmpty = true
  · rw [if_pos he, if_pos he]; rfl
  · rw [if_neg he, if_neg he]
    show _ = joinW ((x.lab.data.toList ++ [58]) :: bodW x)
    rw [joinW_cons _ _ (bodW_ne x)]; simp
theorem wordsX_ne (x : AL) : wordsX x ≠ [] := by
  unfold wordsX
  intro e
  exact bodW_ne x (List.append_eq_nil_iff.1 e).2
theorem line_words_of {x : AL} (h : x.may = true) : wordsL (labP x ++ bodP x) = wordsX x ∧ 10 ∉ labP x ++ bodP x := by
  have hw := words_ok h
  have hc := join_clean (wordsX x) (fun q hq => (hw q hq).1)
  rw [line_join h]
  refine ⟨?_, hc.2⟩
  unfold wordsL
  rw [ahead_all 59 hc.1, words_join _ hw]
/-! ### what a line's words come to -/
theorem suf_no {l : List UInt8} (h : 58 ∉ l) : Lib.hasSuffix l [58] = false := by
  unfold Lib.hasSuffix
  cases hx : [58].isSuffixOf l with
  | false => rfl
  | true =>
    rw [List.isSuffixOf_iff_suffix] at hx
    obtain ⟨q, hq⟩ := hx
    exact absurd (by rw [← hq]; simp) h
theorem suf_yes (l : List UInt8) : Lib.hasSuffix (l ++ [58]) [58] = true := by
  unfold Lib.hasSuffix
  rw [List.isSuffixOf_iff_suffix]; exact ⟨l, rfl⟩
theorem let58 {l : List UInt8} (h : ∀ b ∈ l, isLet b = true) : 58 ∉ l := fun hm => by have := h 58 hm; revert this; decide
theorem dig58 {l : List UInt8} (h : ∀ b ∈ l, isDig b = true) : 58 ∉ l := fun hm => by have := h 58 hm; revert this; decide
theorem opL_name {o : Nat} (h : o < 28) (hn : (rowAt o).name ≠ []) : opL (rowAt o).name = o := by
  have := opOf_name h hn (nameS o) rfl
  rw [opL_of] at this; exact this
theorem mayN_1a {a b c : Nat} (h : mayN 1 a b c = true) : a < 16 := by unfold mayN at h; simp at h; omega
theorem mayN_3a {a b c : Nat} (h : mayN 3 a b c = true) : a < 16 ∧ b < 16 := by unfold mayN at h; simp at h; omega
theorem mayN_12a {a b c : Nat} (h : mayN 12 a b c = true) : a = 1 ∨ a = 2 ∨ a = 4 := by unfold mayN at h; simp at h; omega
theorem nm0 : ∀ o, o < 28 → (rowAt o).name ≠ [] → (rowAt o).nm = 0 → o ≠ 0 ∧ wordsN o = 0 ∧ o ≠ 17 ∧ o ≠ 18 := by decide
theorem nm1 : ∀ o, o < 28 → (rowAt o).nm = 1 → o = 21 ∨ o = 22 ∨ o = 24 ∨ o = 26 := by decide
theorem nm3 : ∀ o, o < 28 → (rowAt o).nm = 3 → o = 23 ∨ o = 25 := by decide
theorem nm4 : ∀ o, o < 28 → (rowAt o).nm = 4 → o = 1 ∨ o = 19 ∨ o = 20 := by decide
theorem nm12 : ∀ o, o < 28 → (rowAt o).nm = 12 → o = 17 ∨ o = 18 := by decide
theorem opR_name {o : Nat} (h : o < 28) (hn : (rowAt o).name ≠ []) (h0 : o ≠ 0) (h17 : o ≠ 17) (h18 : o ≠ 18) : opR (rowAt o).name = (o, 0) := by
  have e := opL_name h hn
  rw [opR_other (by rw [e]; exact h0) (by rw [e]; exact h17) (by rw [e]; exact h18), e]
theorem lab_dec (n : Nat) : labelB (bytesOf (Lib.decDigits n)) = false := by
  obtain ⟨c, r, he, hc⟩ := dec_head n
  unfold labelB
  rw [bytesOf_data, he, labL_cons]
  rw [show isLet c = false from dig_let hc]; simp
theorem dec_one {a : Nat} (h : a < 10) : Lib.decDigits a = [UInt8.ofNat (48 + a)] := by rw [Lib.decDigits, dif_pos h]
theorem rest_back {x : AL} (lab : ByteArray) (h : x.may = true) (hok : x.ok) : restS lab ((bodW x).map bytesOf) = (0, ⟨lab, x.i, x.tgt⟩) := by
  obtain ⟨hn, ho, hm, hnm⟩ := may_row (may_ins h)
  have hc32 := hok.i.c
  have hx := may_tgt h
  unfold bodW
  obtain ⟨xl, ⟨o, a, b, c⟩, tgt⟩ := x
  simp only at hn ho hm hnm hc32 hx ⊢
  by_cases he : tgt.toList.isEmpty = true
  · rw [if_pos he]
    have ht : tgt = eS := by rw [← bytesOf_of tgt, empty_list.1 he]; rfl
    subst ht
    clear hx
    rcases hnm with e | e | e | e | e
    · rw [e] at hm ⊢
      obtain ⟨rfl, rfl, rfl⟩ := mayN_0 hm
      obtain ⟨h0, hw, h17, h18⟩ := nm0 o ho hn e
      show opS lab (opR (rowAt o).name).1 (opR (rowAt o).name).2 [] = _
      rw [opR_name ho hn h0 h17 h18, opS_0 h0 hw rfl]
    · rw [e] at hm ⊢
      obtain ⟨rfl, rfl⟩ := mayN_1 hm
      have ha := mayN_1a hm
      have h1 := nm1 o ho e
      show opS lab (opR (rowAt o).name).1 (opR (rowAt o).name).2 [bytesOf (Lib.decDigits a)] = _
      rw [opR_name ho hn (by omega) (by omega) (by omega), opS_arg (by omega) (by rcases h1 with rfl | rfl | rfl | rfl <;> decide) (by rcases h1 with rfl | rfl | rfl | rfl <;> rfl)]
      show argS lab o 0 (bytesOf (Lib.decDigits a)) eS = _
      unfold argS
      rw [lab_dec, Bool.and_false, if_neg (by decide), if_neg (by omega), bytesOf_data, numL_dec a (by omega)]
      show (if 15 < a then _ else if wordsN o = 2 then _ else _) = _
      rw [if_neg (by omega), if_neg (by rcases h1 with rfl | rfl | rfl | rfl <;> decide)]
    · rw [e] at hm ⊢
      obtain rfl := mayN_3 hm
      have ha := mayN_3a hm
      have h1 := nm3 o ho e
      show opS lab (opR (rowAt o).name).1 (opR (rowAt o).name).2 [bytesOf (Lib.decDigits a), bytesOf (Lib.decDigits b)] = _
      rw [opR_name ho hn (by omega) (by omega) (by omega), opS_arg (by omega) (by rcases h1 with rfl | rfl <;> decide) (by rcases h1 with rfl | rfl <;> rfl)]
      show argS lab o 0 (bytesOf (Lib.decDigits a)) (bytesOf (Lib.decDigits b)) = _
      unfold argS
      rw [lab_dec, Bool.and_false, if_neg (by decide), if_neg (by omega), bytesOf_data, numL_dec a (by omega), bytesOf_data, numL_dec b (by omega)]
      show (if 15 < a then _ else if wordsN o = 2 then (if 15 < b then _ else _) else _) = _
      rw [if_neg (by omega), if_pos (by rcases h1 with rfl | rfl <;> decide), if_neg (by omega)]
    · rw [e] at hm ⊢
      obtain ⟨rfl, rfl⟩ := mayN_4 hm
      have h1 := nm4 o ho e
      show opS lab (opR (rowAt o).name).1 (opR (rowAt o).name).2 [bytesOf (Lib.decDigits c)] = _
      rw [opR_name ho hn (by omega) (by omega) (by omega), opS_arg (by omega) (by rcases h1 with rfl | rfl | rfl <;> decide) (by rcases h1 with rfl | rfl | rfl <;> rfl)]
      show argS lab o 0 (bytesOf (Lib.decDigits c)) eS = _
      unfold argS
      rw [lab_dec, Bool.and_false, if_neg (by decide), if_pos (by omega), bytesOf_data, numL_dec c hc32]
    · rw [e] at hm ⊢
      obtain rfl := mayN_12 hm
      have ha := mayN_12a hm
      have h1 := nm12 o ho e
      show opS lab (opR ((rowAt o).name ++ Lib.decDigits a)).1 (opR ((rowAt o).name ++ Lib.decDigits a)).2 [bytesOf (Lib.decDigits c)] = _
      have hr : opR ((rowAt o).name ++ Lib.decDigits a) = (o, a) := by
        rw [dec_one (by omega), opR_sized (by rw [opL_name ho hn]; exact h1) (by rcases ha with rfl | rfl | rfl <;> decide), opL_name ho hn]
        rcases ha with rfl | rfl | rfl <;> rfl
      rw [hr]
      show opS lab o a [bytesOf (Lib.decDigits c)] = _
      rw [opS_arg (by omega) (by rcases h1 with rfl | rfl <;> decide) (by rcases h1 with rfl | rfl <;> rfl)]
      show argS lab o a (bytesOf (Lib.decDigits c)) eS = _
      unfold argS
      rw [lab_dec, Bool.and_false, if_neg (by decide), if_pos (by omega), bytesOf_data, numL_dec c hc32]
  · rw [if_neg he]
    obtain ⟨⟨hlb, hj⟩, rfl⟩ := hx.resolve_left he
    have e := (jump_nm hj).1
    rw [e] at hm
    obtain ⟨rfl, rfl⟩ := mayN_4 hm
    have h1 : o = 19 ∨ o = 20 := by unfold jumpB at hj; simp at hj; exact hj
    show opS lab (opR (rowAt o).name).1 (opR (rowAt o).name).2 [bytesOf tgt.data.toList] = _
    rw [opR_name ho hn (by omega) (by omega) (by omega), opS_arg (by omega) (by rcases h1 with rfl | rfl <;> decide) (by rcases h1 with rfl | rfl <;> rfl), bytesOf_of]
    show argS lab o 0 tgt eS = _
    unfold argS
    rw [hj, hlb]; rfl
theorem body_58 {x : AL} (h : x.may = true) : ∃ n vs, bodW x = n :: vs ∧ 58 ∉ n := by
  obtain ⟨hn, ho, hm, hnm⟩ := may_row (may_ins h)
  have n58 : 58 ∉ (rowAt x.i.op).name := let58 (name_let _)
  have d58 : 58 ∉ (rowAt x.i.op).name ++ Lib.decDigits x.i.a := fun hx => (List.mem_append.1 hx).elim n58 (dig58 (dec_dig _))
  unfold bodW
  repeat' split
  all_goals first | exact ⟨_, _, rfl, n58⟩ | exact ⟨_, _, rfl, d58⟩
theorem line_back {x : AL} (h : x.may = true) (hok : x.ok) : lineS ((wordsX x).map bytesOf) = (0, x) := by
  have hr := rest_back (x := x) x.lab h hok
  unfold wordsX labW
  by_cases he : x.lab.toList.isEmpty = true
  · rw [if_pos he]
    have hl : x.lab = eS := by rw [← bytesOf_of x.lab, empty_list.1 he]; rfl
    obtain ⟨n, vs, hb, h58⟩ := body_58 h
    rw [List.nil_append]
    rw [hl] at hr
    unfold lineS
    have hc : colonB (((bodW x).map bytesOf).getD 0 eS) = false := by
      rw [hb]
      show Lib.hasSuffix (bytesOf n).data.toList [58] = false
      rw [bytesOf_data]; exact suf_no h58
    rw [hc, if_neg (by decide), hr]
    rw [← hl]
  · rw [if_neg he]
    have hlb := (may_lab h).resolve_left he
    show lineS (bytesOf (x.lab.data.toList ++ [58]) :: (bodW x).map bytesOf) = _
    unfold lineS
    have hc : colonB (bytesOf (x.lab.data.toList ++ [58])) = true := by
      show Lib.hasSuffix (bytesOf _).data.toList [58] = true
      rw [bytesOf_data]; exact suf_yes _
    have hs : stripB (bytesOf (x.lab.data.toList ++ [58])) = x.lab := by
      unfold stripB Lib.trimSuffix
      rw [bytesOf_data, if_pos (suf_yes _), List.length_append, List.length_singleton, Nat.add_sub_cancel, List.take_left' rfl]
    show (if colonB (bytesOf (x.lab.data.toList ++ [58])) then (if labelB (stripB (bytesOf (x.lab.data.toList ++ [58]))) then restS (stripB (bytesOf (x.lab.data.toList ++ [58]))) ((bodW x).map bytesOf) else (101, al0)) else _) = _
    rw [hc, if_pos rfl, hs, hlb, if_pos rfl, hr]
/-! ### a text's lines -/
def lineB (x : AL) : List UInt8 := labP x ++ bodP x
theorem part_text : ∀ (ls : List AL), (∀ x ∈ ls, x.may = true) → partL 10 (ls.flatMap linL) = ls.map lineB ++ [[]]
  | [], _ => rfl
  | x :: ls, h => by
    rw [List.flatMap_cons]
    have e : linL x ++ ls.flatMap linL = lineB x ++ 10 :: ls.flatMap linL := by unfold linL lineB; simp
    rw [e, partL_front 10 (lineB x) (line_words_of (h x (by simp))).2, part_text ls (fun y hy => h y (List.mem_cons_of_mem _ hy))]; rfl
theorem parse_lines : ∀ (ls : List AL) (n : Nat) (acc : List AL), (∀ x ∈ ls, x.may = true ∧ x.ok) → acc.length + ls.length ≤ 16384 → parseG n acc (ls.map lineB ++ [[]]) = (acc ++ ls, 0, 0)
  | [], n, acc, _, _ => by
    show parseG n acc [[]] = _
    rw [parseG_blank (by rfl), List.append_nil]; rfl
  | x :: ls, n, acc, h, hl => by
    have hx := h x (by simp)
    have hw : wordsL (lineB x) = wordsX x := (line_words_of hx.1).1
    have hs : lineS (wordsB (lineB x)) = (0, x) := by unfold wordsB; rw [hw]; exact line_back hx.1 hx.2
    rw [List.length_cons] at hl
    rw [List.map_cons, List.cons_append, parseG_line (by rw [hw]; exact wordsX_ne x) (by rw [hs]) (by omega), hs,
      parse_lines ls (n + 1) (acc ++ [x]) (fun y hy => h y (List.mem_cons_of_mem _ hy)) (by rw [List.length_append]; simp; omega)]
    simp
theorem range_getD {α : Type} (d : α) : ∀ (ls : List α), (List.range ls.length).map (fun i => ls.getD i d) = ls
  | [] => rfl
  | x :: ls => by
    rw [List.length_cons, List.range_succ_eq_map, List.map_cons, List.map_map]
    congr 1
    exact range_getD d ls
theorem getD_mem {α : Type} {d : α} {ls : List α} {x : α} (h : x ∈ ls) : ∃ i, i < ls.length ∧ ls.getD i d = x := by
  obtain ⟨i, hi, rfl⟩ := List.mem_iff_getElem.1 h
  exact ⟨i, hi, by rw [List.getD_eq_getElem?_getD, List.getElem?_eq_getElem hi]; rfl⟩
end Go.Proofs.YtdlpgoackmgdkaaGreatDoor
