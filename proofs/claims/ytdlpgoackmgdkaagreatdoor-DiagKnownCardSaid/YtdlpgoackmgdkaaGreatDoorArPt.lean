/- Plain: a plan's text line by line; what a text is read as is told by what is printed. -/
import Derived.Test.YtdlpgoackmgdkaaGreatDoorArE
import Derived.Test.YtdlpgoackmgdkaaGreatDoorZAsmB
namespace Go.Proofs.YtdlpgoackmgdkaaGreatDoor
open Go.RowKit Go.Shelf
set_option linter.unusedVariables false
set_option linter.unusedSimpArgs false
/-- The number that digits tell, at most so great. -/
def arN (most : Nat) (l : List UInt8) : Option Nat := if 0 < l.length ∧ l.length ≤ 10 ∧ ¬ (1 < l.length ∧ l.head? = some 48) ∧ l.all isDig = true ∧ valD l ≤ most then some (valD l) else none
theorem arN_inv {most : Nat} {l : List UInt8} {n : Nat} (h : arN most l = some n) : Lib.decDigits n = l ∧ n ≤ most := by
  unfold arN at h
  by_cases c : 0 < l.length ∧ l.length ≤ 10 ∧ ¬ (1 < l.length ∧ l.head? = some 48) ∧ l.all isDig = true ∧ valD l ≤ most
  · rw [if_pos c] at h
    cases h
    obtain ⟨h0, _, h2, h3, h4⟩ := c
    refine ⟨?_, h4⟩
    cases l with
    | nil => simp at h0
    | cons c r =>
      refine canon _ r c rfl h3 ?_
      by_cases hr : r = []
      · exact .inr hr
      · refine .inl fun e => h2 ⟨?_, ?_⟩
        · have : 0 < r.length := List.length_pos_iff.2 hr
          simp; omega
        · simp only [List.head?_cons, Option.some.injEq]
          have : c.toNat = (48 : UInt8).toNat := e
          exact UInt8.toNat_inj.1 this
  · rw [if_neg c] at h; cases h
theorem dec_len_pow : ∀ (k n : Nat), n < 10 ^ (k + 1) → (Lib.decDigits n).length ≤ k + 1
  | 0, n, h => by rw [Lib.decDigits_one (by omega)]; simp
  | k + 1, n, h => by
    by_cases hn : n < 10
    · rw [Lib.decDigits_one hn]; simp
    · rw [dec_step hn, List.length_append, List.length_singleton]
      have := dec_len_pow k (n / 10) (by rw [Nat.pow_succ] at h; omega)
      omega
theorem dec_pos (n : Nat) : 0 < (Lib.decDigits n).length := by
  obtain ⟨d, r, e, _⟩ := dec_head n
  rw [e]; simp
theorem arN_dec {most n : Nat} (h : n ≤ most) (hm : most ≤ 4294967295) : arN most (Lib.decDigits n) = some n := by
  unfold arN
  rw [if_pos, valD_dec]
  refine ⟨dec_pos n, dec_len_pow 9 n (by omega), ?_, List.all_eq_true.2 (dec_dig n), by rw [valD_dec]; exact h⟩
  rintro ⟨h1, h2⟩
  by_cases hn : n < 10
  · rw [Lib.decDigits_one hn] at h1; simp at h1
  · obtain ⟨c, r, e, h3, _⟩ := head_dec n (by omega)
    rw [e] at h2
    simp at h2
    exact h3 (by rw [h2]; rfl)
def PL.good (x : PL) : Prop := x.fr ≤ 4294967295 ∧ 0 ≤ x.rt ∧ x.rt ≤ 65535
def atB : List UInt8 := [97, 116]
def roB : List UInt8 := [114, 111, 117, 116, 101]
def lineB2 (x : PL) : List UInt8 := atB ++ 32 :: (Lib.decDigits x.fr ++ 32 :: (roB ++ 32 :: Lib.decDigits x.rt.toNat))
theorem line_eq {x : PL} (h : x.good) : lineT x = lineB2 x ++ [10] := by
  obtain ⟨n, hn⟩ := Int.eq_ofNat_of_zero_le h.2.1
  unfold lineT lineB2 atB roB
  rw [hn]
  have : Lib.itoa ((n : Nat) : Int) = Lib.decDigits n := by unfold Lib.itoa; rw [if_neg (by omega)]; simp
  rw [this]
  simp
theorem dig_no {l : List UInt8} (h : ∀ b ∈ l, isDig b = true) {c : UInt8} (hc : isDig c = false) : c ∉ l := fun hm => by
  have := h c hm; rw [hc] at this; cases this
theorem line_part (x : PL) : partL 32 (lineB2 x) = [atB, Lib.decDigits x.fr, roB, Lib.decDigits x.rt.toNat] := by
  unfold lineB2
  rw [partL_front 32 atB (by decide), partL_front 32 _ (dig_no (dec_dig _) (by decide)), partL_front 32 roB (by decide), partL_last 32 _ (dig_no (dec_dig _) (by decide))]
theorem line_no10 (x : PL) : 10 ∉ lineB2 x := by
  unfold lineB2
  simp only [List.mem_append, List.mem_cons, not_or]
  exact ⟨by decide, by decide, dig_no (dec_dig _) (by decide), by decide, by decide, by decide, dig_no (dec_dig _) (by decide)⟩
theorem line_inj {x y : PL} (hx : x.good) (hy : y.good) (h : lineB2 x = lineB2 y) : x = y := by
  have h1 := line_part x
  rw [h, line_part y] at h1
  injection h1 with _ h1
  injection h1 with h2 h1
  injection h1 with _ h1
  injection h1 with h3 _
  have e1 := congrArg valD h2
  have e2 := congrArg valD h3
  rw [valD_dec, valD_dec] at e1 e2
  obtain ⟨xf, xr⟩ := x
  obtain ⟨yf, yr⟩ := y
  have g1 := hx.2.1
  have g2 := hy.2.1
  simp only at e1 e2 g1 g2 ⊢
  have : xr = yr := by omega
  rw [e1, this]
theorem part_cons (c : UInt8) : ∀ (l p q : List UInt8) (r : List (List UInt8)), partL c l = p :: q :: r → ∃ s, l = p ++ c :: s ∧ partL c s = q :: r
  | [], p, q, r, h => by simp [partL] at h
  | b :: t, p, q, r, h => by
    unfold partL at h
    by_cases e : b = c
    · rw [if_pos e] at h
      injection h with h1 h2
      exact ⟨t, by rw [← h1, e]; rfl, h2⟩
    · rw [if_neg e] at h
      cases hp : partL c t with
      | nil => rw [hp] at h; simp at h
      | cons x ts =>
        rw [hp] at h
        injection h with h1 h2
        subst h2
        obtain ⟨s, h3, h4⟩ := part_cons c t x q r hp
        exact ⟨s, by rw [← h1, h3]; rfl, h4⟩
theorem part_one (c : UInt8) : ∀ (l p : List UInt8), partL c l = [p] → l = p
  | [], p, h => by simp [partL] at h; exact h.symm
  | b :: t, p, h => by
    unfold partL at h
    by_cases e : b = c
    · rw [if_pos e] at h
      injection h with h1 h2
      cases hp : partL c t with
      | nil =>
        cases t with
        | nil => simp [partL] at hp
        | cons y z =>
          unfold partL at hp
          split at hp
          · cases hp
          · split at hp <;> cases hp
      | cons x ts => rw [hp] at h2; cases h2
    · rw [if_neg e] at h
      cases hp : partL c t with
      | nil =>
        cases t with
        | nil => simp [partL] at hp
        | cons y z =>
          unfold partL at hp
          split at hp
          · cases hp
          · split at hp <;> cases hp
      | cons x ts =>
        rw [hp] at h
        injection h with h1 h2
        subst h2
        rw [← h1, part_one c t x hp]
/-- A line that is read. -/
theorem line_of {l d1 d2 : List UInt8} {f n : Nat} (hp : partL 32 l = [atB, d1, roB, d2]) (h1 : arN 4294967295 d1 = some f) (h2 : arN 65535 d2 = some n) : l = lineB2 ⟨f, (n : Int)⟩ ∧ (⟨f, (n : Int)⟩ : PL).good := by
  obtain ⟨s1, e1, hp1⟩ := part_cons 32 l _ _ _ hp
  obtain ⟨s2, e2, hp2⟩ := part_cons 32 s1 _ _ _ hp1
  obtain ⟨s3, e3, hp3⟩ := part_cons 32 s2 _ _ _ hp2
  have e4 := part_one 32 s3 _ hp3
  obtain ⟨g1, g2⟩ := arN_inv h1
  obtain ⟨g3, g4⟩ := arN_inv h2
  refine ⟨?_, g2, by show (0 : Int) ≤ (n : Int); omega, by show (n : Int) ≤ 65535; omega⟩
  rw [e1, e2, e3, e4]
  unfold lineB2
  show _ = atB ++ 32 :: (Lib.decDigits f ++ 32 :: (roB ++ 32 :: Lib.decDigits ((n : Int)).toNat))
  rw [g1, show ((n : Int)).toNat = n by omega, g3]
/-- None of the lines that may be stands ahead. -/
def noLn (r : List UInt8) : Prop := r ≠ [] ∧ ∀ x : PL, x.good → ∀ s, r ≠ lineT x ++ s
theorem line_head {x : PL} (hx : x.good) {l r s : List UInt8} (hl : 10 ∉ l) (h : l ++ 10 :: r = lineT x ++ s) : l = lineB2 x ∧ r = s := by
  have e : l ++ 10 :: r = lineB2 x ++ 10 :: s := by rw [h, line_eq hx, List.append_assoc]; rfl
  have e2 := congrArg (partL 10) e
  rw [partL_front 10 l hl, partL_front 10 _ (line_no10 x)] at e2
  injection e2 with e3 _
  subst e3
  have := List.append_cancel_left e
  injection this with _ e4
  exact ⟨rfl, e4⟩
theorem no_10 {r : List UInt8} (h : 10 ∉ r) (h0 : r ≠ []) : noLn r := ⟨h0, fun x hx s e => h (by rw [e, line_eq hx]; simp)⟩
theorem no_part {l r : List UInt8} (hl : 10 ∉ l) (h : ∀ x : PL, x.good → partL 32 l ≠ [atB, Lib.decDigits x.fr, roB, Lib.decDigits x.rt.toNat]) : noLn (l ++ 10 :: r) :=
  ⟨by simp, fun x hx s e => by
    obtain ⟨e1, _⟩ := line_head hx hl e
    exact h x hx (by rw [e1]; exact line_part x)⟩
theorem par_uniq : ∀ (L M : List PL) (r s : List UInt8), (∀ x ∈ L, x.good) → (∀ x ∈ M, x.good) → printT L ++ r = printT M ++ s → (r = [] ∨ noLn r) → (s = [] ∨ noLn s) → L = M ∧ r = s
  | [], [], r, s, _, _, h, _, _ => ⟨rfl, h⟩
  | [], y :: M, r, s, _, hM, h, hr, _ => by
    exfalso
    have e : r = lineT y ++ (printT M ++ s) := by
      rw [show printT (y :: M) = lineT y ++ printT M from rfl, List.append_assoc] at h; exact h
    rcases hr with hr | hr
    · rw [hr, line_eq (hM y (by simp))] at e; simp at e
    · exact hr.2 y (hM y (by simp)) _ e
  | x :: L, [], r, s, hL, _, h, _, hs => by
    exfalso
    have e : s = lineT x ++ (printT L ++ r) := by
      rw [show printT (x :: L) = lineT x ++ printT L from rfl, List.append_assoc] at h; exact h.symm
    rcases hs with hs | hs
    · rw [hs, line_eq (hL x (by simp))] at e; simp at e
    · exact hs.2 x (hL x (by simp)) _ e
  | x :: L, y :: M, r, s, hL, hM, h, hr, hs => by
    have hx := hL x (by simp)
    have hy := hM y (by simp)
    have e : lineB2 x ++ 10 :: (printT L ++ r) = lineT y ++ (printT M ++ s) := by
      rw [show printT (x :: L) = lineT x ++ printT L from rfl, show printT (y :: M) = lineT y ++ printT M from rfl, List.append_assoc, List.append_assoc, line_eq hx, List.append_assoc] at h; exact h
    obtain ⟨e1, e2⟩ := line_head hy (line_no10 x) e
    obtain ⟨e3, e4⟩ := par_uniq L M r s (fun z hz => hL z (by simp [hz])) (fun z hz => hM z (by simp [hz])) e2 hr hs
    exact ⟨by rw [line_inj hx hy e1, e3], e4⟩
theorem printT_snoc (L : List PL) (x : PL) : printT (L ++ [x]) = printT L ++ lineT x := by unfold printT; rw [List.flatMap_append]; simp
/-- What a text is read as: its lines; what is left of it. -/
structure ParR (s : List UInt8) (L : List PL) (r : List UInt8) : Prop where
  text : s = printT L ++ r
  good : ∀ x ∈ L, x.good
  left : r = [] ∨ noLn r
theorem ParR.uniq {s : List UInt8} {L M : List PL} {r t : List UInt8} (h : ParR s L r) (k : ParR s M t) : L = M ∧ r = t :=
  par_uniq L M r t h.good k.good (h.text.symm.trans k.text) h.left k.left
/-- What a plan's text is read as. -/
theorem par_print {L : List PL} (h : ∀ x ∈ L, x.good) : ParR (printT L) L [] := ⟨by simp, h, .inl rfl⟩
end Go.Proofs.YtdlpgoackmgdkaaGreatDoor
