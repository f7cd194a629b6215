/- Plain: a line taken word by word is a line as it is defined. -/
import Derived.Test.YtpodedhnlicckaaGreatDoorTbRg
import Derived.Test.YtpodedhnlicckaaGreatDoorTbPk
namespace Go.Proofs.YtpodedhnlicckaaGreatDoor
set_option linter.unusedVariables false
set_option linter.unusedSimpArgs false
set_option maxRecDepth 100000
def bTr : ByteArray := bytesOf wTr
def bSi : ByteArray := bytesOf wSi
def bPt : ByteArray := bytesOf wPt
def bPs : ByteArray := bytesOf wPs
def bRo : ByteArray := bytesOf wRo
def bAp : ByteArray := bytesOf wAp
def bHo : ByteArray := bytesOf wHo
def bCo : ByteArray := bytesOf wCo
def datL (ws : List ByteArray) : List (List UInt8) := ws.map fun s => s.data.toList
theorem bytes_eq {q : ByteArray} {l : List UInt8} : q = bytesOf l ↔ q.data.toList = l := ⟨fun e => by rw [e, bytesOf_data], fun e => by rw [← e, bytesOf_of]⟩
theorem wordS_hit {q : ByteArray} {r : List ByteArray} {bad : Bool} {s : ByteArray} (h : q = s) : wordS (q :: r) bad s = (r, bad) := if_pos h
theorem wordS_miss {q : ByteArray} {r : List ByteArray} {bad : Bool} {s : ByteArray} (h : ¬ q = s) : wordS (q :: r) bad s = (q :: r, true) := if_neg h
theorem wordS_bad (ws : List ByteArray) (s : ByteArray) : (wordS ws true s).2 = true := by
  cases ws with
  | nil => rfl
  | cons q r =>
    by_cases h : q = s
    · rw [wordS_hit h]
    · rw [wordS_miss h]
theorem numS2_bad (ws : List ByteArray) : (numS2 ws true).2.2 = true := by cases ws <;> rfl
theorem allS_bad {α : Type} (st : List ByteArray) (f : ByteArray → α × Bool) : ∀ ws, (allS st f ws true).2.2 = true
  | [] => rfl
  | q :: r => by
    cases h : hasS st q with
    | true => rw [allS_stop h]
    | false => rw [allS_go h]; exact allS_bad st f r
/-! ### two words -/
def twoC1 (x : List ByteArray × Bool) : Nat × List ByteArray × Bool := numS2 x.1 x.2
def twoC (s : ByteArray) (ws : List ByteArray) : Nat × List ByteArray × Bool := twoC1 (wordS ws false s)
def okC (b : Bool) (ws : List ByteArray) : Bool := !b && ws.isEmpty
theorem numI_dig (q : List UInt8) : numI q = if (digS q).2 = true then some ((digS q).1 : Int) else none := by
  unfold numI
  rw [digS_num]
  split <;> rfl
theorem two_law (l : List UInt8) (ws : List ByteArray) : twoT l (datL ws) = if okC (twoC (bytesOf l) ws).2.2 (twoC (bytesOf l) ws).2.1 = true then some ((twoC (bytesOf l) ws).1 : Int) else none := by
  cases ws with
  | nil => rfl
  | cons q r =>
    by_cases hq : q = bytesOf l
    · have e : twoC (bytesOf l) (q :: r) = numS2 r false := by unfold twoC; rw [wordS_hit hq]; rfl
      rw [e]
      have hd := bytes_eq.1 hq
      cases r with
      | nil => show twoT l [q.data.toList] = _; rfl
      | cons d r2 =>
        cases r2 with
        | nil =>
          show twoT l [q.data.toList, d.data.toList] = _
          rw [twoT_eq, if_pos hd, numI_dig]
          show _ = if okC (false || !(digS d.data.toList).2) [] = true then some ((digS d.data.toList).1 : Int) else none
          cases (digS d.data.toList).2 <;> rfl
        | cons x r3 =>
          show twoT l (q.data.toList :: d.data.toList :: x.data.toList :: datL r3) = _
          show none = if okC (false || !(digS d.data.toList).2) (x :: r3) = true then _ else none
          rw [if_neg]
          unfold okC; simp
    · have e : twoC (bytesOf l) (q :: r) = numS2 (q :: r) true := by unfold twoC; rw [wordS_miss hq]; rfl
      rw [e]
      have hb : okC (numS2 (q :: r) true).2.2 (numS2 (q :: r) true).2.1 = false := by rw [numS2_bad]; rfl
      rw [hb, if_neg (by decide)]
      have hd : ¬ q.data.toList = l := fun e => hq (bytes_eq.2 e)
      cases r with
      | nil => rfl
      | cons d r2 =>
        cases r2 with
        | nil => show twoT l [q.data.toList, d.data.toList] = _; rw [twoT_eq, if_neg hd]
        | cons x r3 => rfl
/-! ### a route -/
def endD (sg : Int) (tr : List Int) (ps : List (Int × Bool)) (a : Int) (ho : Nat) (x : List Int × List ByteArray × Bool) : Rt × Bool := (⟨sg, tr, ps, a, x.1, ho % 65536⟩, okC x.2.2 x.2.1)
def endC3 (sg : Int) (tr : List Int) (ps : List (Int × Bool)) (a : Int) (ho : Nat) (x : List ByteArray × Bool) : Rt × Bool := endD sg tr ps a ho (allS [] digF x.1 x.2)
def endC2 (sg : Int) (tr : List Int) (ps : List (Int × Bool)) (a : Int) (x : Nat × List ByteArray × Bool) : Rt × Bool := endC3 sg tr ps a x.1 (wordS x.2.1 x.2.2 bCo)
def endC1 (sg : Int) (tr : List Int) (ps : List (Int × Bool)) (a : Int) (x : List ByteArray × Bool) : Rt × Bool := endC2 sg tr ps a (numS2 x.1 x.2)
def endC (sg : Int) (tr : List Int) (ps : List (Int × Bool)) (a : Int) (ws : List ByteArray) (b : Bool) : Rt × Bool := endC1 sg tr ps a (wordS ws b bHo)
def apC2 (sg : Int) (tr : List Int) (ps : List (Int × Bool)) (x : Nat × List ByteArray × Bool) : Rt × Bool := endC sg tr ps (x.1 : Int) x.2.1 x.2.2
def apC1 (sg : Int) (tr : List Int) (ps : List (Int × Bool)) (x : List ByteArray × Bool) : Rt × Bool := apC2 sg tr ps (numS2 x.1 x.2)
def headIs (ws : List ByteArray) (s : ByteArray) : Bool := match ws with | [] => false | q :: _ => decide (q = s)
def apC (sg : Int) (tr : List Int) (ps : List (Int × Bool)) (ws : List ByteArray) (b : Bool) : Rt × Bool := if headIs ws bAp = true then apC1 sg tr ps (wordS ws b bAp) else endC sg tr ps (-1) ws b
def ptC2 (sg : Int) (tr : List Int) (x : List (Int × Bool) × List ByteArray × Bool) : Rt × Bool := apC sg tr x.1 x.2.1 x.2.2
def ptC1 (sg : Int) (tr : List Int) (x : List ByteArray × Bool) : Rt × Bool := ptC2 sg tr (allS [bAp, bHo] ptF x.1 x.2)
def ptC (sg : Int) (tr : List Int) (ws : List ByteArray) (b : Bool) : Rt × Bool := ptC1 sg tr (wordS ws b bPs)
def trC2 (sg : Int) (x : List Int × List ByteArray × Bool) : Rt × Bool := ptC sg x.1 x.2.1 x.2.2
def trC1 (sg : Int) (x : List ByteArray × Bool) : Rt × Bool := trC2 sg (allS [bPs] digF x.1 x.2)
def trC (sg : Int) (ws : List ByteArray) (b : Bool) : Rt × Bool := trC1 sg (wordS ws b bTr)
def rtC2 (x : Nat × List ByteArray × Bool) : Rt × Bool := trC (x.1 : Int) x.2.1 x.2.2
def rtC1 (x : List ByteArray × Bool) : Rt × Bool := rtC2 (numS2 x.1 x.2)
def rtC (ws : List ByteArray) (b : Bool) : Rt × Bool := rtC1 (wordS ws b bRo)
theorem endC3_bad (sg : Int) (tr : List Int) (ps : List (Int × Bool)) (a : Int) (ho : Nat) {x : List ByteArray × Bool} (h : x.2 = true) : (endC3 sg tr ps a ho x).2 = false := by
  obtain ⟨ws, b⟩ := x
  obtain rfl : b = true := h
  unfold endC3 endD okC
  simp [allS_bad]
theorem endC2_bad (sg : Int) (tr : List Int) (ps : List (Int × Bool)) (a : Int) {x : Nat × List ByteArray × Bool} (h : x.2.2 = true) : (endC2 sg tr ps a x).2 = false := by
  obtain ⟨n, ws, b⟩ := x
  obtain rfl : b = true := h
  exact endC3_bad sg tr ps a n (wordS_bad ws _)
theorem endC1_bad (sg : Int) (tr : List Int) (ps : List (Int × Bool)) (a : Int) {x : List ByteArray × Bool} (h : x.2 = true) : (endC1 sg tr ps a x).2 = false := by
  obtain ⟨ws, b⟩ := x
  obtain rfl : b = true := h
  exact endC2_bad sg tr ps a (numS2_bad ws)
theorem endC_bad (sg : Int) (tr : List Int) (ps : List (Int × Bool)) (a : Int) (ws : List ByteArray) : (endC sg tr ps a ws true).2 = false := endC1_bad sg tr ps a (wordS_bad ws _)
theorem apC2_bad (sg : Int) (tr : List Int) (ps : List (Int × Bool)) {x : Nat × List ByteArray × Bool} (h : x.2.2 = true) : (apC2 sg tr ps x).2 = false := by
  obtain ⟨n, ws, b⟩ := x
  obtain rfl : b = true := h
  exact endC_bad sg tr ps n ws
theorem apC1_bad (sg : Int) (tr : List Int) (ps : List (Int × Bool)) {x : List ByteArray × Bool} (h : x.2 = true) : (apC1 sg tr ps x).2 = false := by
  obtain ⟨ws, b⟩ := x
  obtain rfl : b = true := h
  exact apC2_bad sg tr ps (numS2_bad ws)
theorem apC_bad (sg : Int) (tr : List Int) (ps : List (Int × Bool)) (ws : List ByteArray) : (apC sg tr ps ws true).2 = false := by
  unfold apC
  split
  · exact apC1_bad sg tr ps (wordS_bad ws _)
  · exact endC_bad sg tr ps _ ws
theorem ptC1_bad (sg : Int) (tr : List Int) {x : List ByteArray × Bool} (h : x.2 = true) : (ptC1 sg tr x).2 = false := by
  obtain ⟨ws, b⟩ := x
  obtain rfl : b = true := h
  unfold ptC1 ptC2
  rw [allS_bad]; exact apC_bad _ _ _ _
theorem ptC_bad (sg : Int) (tr : List Int) (ws : List ByteArray) : (ptC sg tr ws true).2 = false := ptC1_bad sg tr (wordS_bad ws _)
theorem trC1_bad (sg : Int) {x : List ByteArray × Bool} (h : x.2 = true) : (trC1 sg x).2 = false := by
  obtain ⟨ws, b⟩ := x
  obtain rfl : b = true := h
  unfold trC1 trC2
  rw [allS_bad]; exact ptC_bad _ _ _
theorem trC_bad (sg : Int) (ws : List ByteArray) : (trC sg ws true).2 = false := trC1_bad sg (wordS_bad ws _)
theorem rtC2_bad {x : Nat × List ByteArray × Bool} (h : x.2.2 = true) : (rtC2 x).2 = false := by
  obtain ⟨n, ws, b⟩ := x
  obtain rfl : b = true := h
  exact trC_bad n ws
theorem rtC1_bad {x : List ByteArray × Bool} (h : x.2 = true) : (rtC1 x).2 = false := by
  obtain ⟨ws, b⟩ := x
  obtain rfl : b = true := h
  exact rtC2_bad (numS2_bad ws)
/-- What a route taken word by word comes to. -/
def Gives (o : Option Rt) (x : Rt × Bool) : Prop := o = if x.2 = true then some x.1 else none
theorem gives_none {x : Rt × Bool} (h : x.2 = false) : Gives none x := by unfold Gives; rw [h]; rfl
theorem digF_num (q : ByteArray) : numI q.data.toList = if (digF q).2 = true then some (digF q).1 else none := numI_dig _
theorem ptT_ptS (l : List UInt8) : ptT l = if (ptS l).2 = true then some (ptS l).1 else none := by
  cases hl : l with
  | nil => rfl
  | cons b r =>
    have hne : b :: r ≠ [] := by simp
    rw [← hl] at hne ⊢
    have hg : l.getLast? = some (l.getLast hne) := List.getLast?_eq_some_getLast hne
    have hD : lastN l = (l.getLast hne).toNat := by unfold lastN; rw [List.getLastD_eq_getLast?, hg]; rfl
    unfold ptT ptE
    rw [hg]
    generalize l.getLast hne = c at *
    have h45 : (some c = some (45 : UInt8)) ↔ c.toNat = 45 := ⟨fun e => by rw [Option.some.inj e]; rfl, fun e => by congr 1; exact UInt8.toNat_inj.1 e⟩
    have h43 : (some c = some (43 : UInt8)) ↔ c.toNat = 43 := ⟨fun e => by rw [Option.some.inj e]; rfl, fun e => by congr 1; exact UInt8.toNat_inj.1 e⟩
    by_cases h1 : c.toNat = 45
    · have hP : ptS l = (((((digS l.dropLast).1 : Nat) : Int), true), (digS l.dropLast).2) := by
        unfold ptS
        rw [hD, if_neg (by rintro (h | h); exact hne h; exact h.2 h1), decide_eq_true h1]
      rw [if_pos (.inl (h45.2 h1)), hP, numI_dig, decide_eq_true (h45.2 h1)]
      show Option.map _ _ = if (digS l.dropLast).2 = true then _ else _
      cases (digS l.dropLast).2 <;> rfl
    · by_cases h2 : c.toNat = 43
      · have hP : ptS l = (((((digS l.dropLast).1 : Nat) : Int), false), (digS l.dropLast).2) := by
          unfold ptS
          rw [hD, if_neg (by rintro (h | h); exact hne h; exact h.1 h2), decide_eq_false h1]
        rw [if_pos (.inr (h43.2 h2)), hP, numI_dig, decide_eq_false (fun e => h1 (h45.1 e))]
        show Option.map _ _ = if (digS l.dropLast).2 = true then _ else _
        cases (digS l.dropLast).2 <;> rfl
      · have hP : ptS l = ((0, false), false) := by
          unfold ptS
          rw [hD, if_pos (.inr ⟨h2, h1⟩)]
        rw [if_neg (by rintro (h | h); exact h1 (h45.1 h); exact h2 (h43.1 h)), hP]; rfl
/-- As many as come are those ahead of the first word of some. -/
theorem allS_law {α : Type} (st : List ByteArray) (f : ByteArray → α × Bool) (g : List UInt8 → Option α) (p : List UInt8 → Bool) (hg : ∀ q : ByteArray, g q.data.toList = if (f q).2 = true then some (f q).1 else none) (hp : ∀ q : ByteArray, p q.data.toList = hasS st q) :
    ∀ ws : List ByteArray, (upto p (datL ws)).2 = datL (allS st f ws false).2.1 ∧ allT g (upto p (datL ws)).1 = if (allS st f ws false).2.2 = true then none else some (allS st f ws false).1 := by
  have B : ∀ ws : List ByteArray, ∀ b, (allS st f ws b).2.1 = (allS st f ws false).2.1 ∧ (allS st f ws b).1 = (allS st f ws false).1 := by
    intro ws
    induction ws with
    | nil => intro b; exact ⟨rfl, rfl⟩
    | cons q r ih =>
      intro b
      cases h : hasS st q with
      | true => rw [allS_stop h, allS_stop h]; exact ⟨rfl, rfl⟩
      | false =>
        rw [allS_go h, allS_go h]
        have i1 := ih (b || !(f q).2); have i2 := ih (false || !(f q).2)
        exact ⟨i1.1.trans i2.1.symm, by show _ :: _ = _ :: _; rw [i1.2, i2.2]⟩
  intro ws
  induction ws with
  | nil => exact ⟨rfl, rfl⟩
  | cons q r ih =>
    have e : datL (q :: r) = q.data.toList :: datL r := rfl
    cases h : hasS st q with
    | true =>
      rw [e, upto, hp q, if_pos h, allS_stop h]; exact ⟨rfl, rfl⟩
    | false =>
      rw [e, upto, hp q, if_neg (by rw [h]; decide), allS_go h]
      refine ⟨?_, ?_⟩
      · show (upto p (datL r)).2 = datL (allS st f r (false || !(f q).2)).2.1
        rw [(B r _).1]; exact ih.1
      · show allT g (q.data.toList :: (upto p (datL r)).1) = if (allS st f r (false || !(f q).2)).2.2 = true then none else some ((f q).1 :: (allS st f r (false || !(f q).2)).1)
        rw [allT, hg q]
        cases hq : (f q).2 with
        | false =>
          rw [if_neg (by decide)]
          show none = if (allS st f r true).2.2 = true then _ else _
          rw [allS_bad, if_pos rfl]
        | true =>
          rw [if_pos rfl]
          show (match allT g (upto p (datL r)).1 with | none => none | some l => some ((f q).1 :: l)) = if (allS st f r false).2.2 = true then none else some ((f q).1 :: (allS st f r false).1)
          rw [ih.2]
          cases (allS st f r false).2.2 <;> rfl
theorem hasS_one (s : List UInt8) (q : ByteArray) : decide (q.data.toList = s) = hasS [bytesOf s] q := by
  unfold hasS
  rw [Bool.eq_iff_iff]
  simp only [decide_eq_true_eq, List.any_cons, List.any_nil, Bool.or_false]
  exact ⟨fun e => (bytes_eq.2 e).symm, fun e => bytes_eq.1 e.symm⟩
theorem hasS_two (s t : List UInt8) (q : ByteArray) : (decide (q.data.toList = s) || decide (q.data.toList = t)) = hasS [bytesOf s, bytesOf t] q := by
  rw [hasS_one, hasS_one]
  unfold hasS; simp
theorem upto_none {α : Type} (ws : List (List UInt8)) : upto (fun _ => false) ws = (ws, []) := by
  induction ws with
  | nil => rfl
  | cons w r ih => rw [upto, if_neg (by decide), ih]
theorem endC3_law (sg : Int) (tr : List Int) (ps : List (Int × Bool)) (a : Int) (d : ByteArray) (r : List ByteArray) (hd : (digS d.data.toList).2 = true) : Gives (endO sg tr ps a d.data.toList (datL r)) (endC3 sg tr ps a (digS d.data.toList).1 (r, false)) := by
  unfold Gives endO endC3 endD okC
  have hn := digS_num d.data.toList
  rw [hd, if_pos rfl] at hn
  rw [hn]
  have hl : (digS d.data.toList).1 % 65536 = (digS d.data.toList).1 := Nat.mod_eq_of_lt (by have := (numT_inv hn).2; omega)
  rw [hl]
  have h := allS_law [] digF numI (fun _ => false) digF_num (fun q => by unfold hasS; rfl) r
  rw [upto_none (α := Int)] at h
  obtain ⟨h1, h2⟩ := h
  have he : (allS [] digF r false).2.1 = [] := by
    have : datL (allS [] digF r false).2.1 = [] := h1.symm
    unfold datL at this
    exact List.map_eq_nil_iff.1 this
  show (match allT numI (datL r) with | none => none | some co => some (Rt.mk sg tr ps a co (digS d.data.toList).1)) = _
  rw [h2]
  show _ = if (!(allS [] digF r false).2.2 && (allS [] digF r false).2.1.isEmpty) = true then some (Rt.mk sg tr ps a (allS [] digF r false).1 (digS d.data.toList).1) else none
  rw [he]
  cases (allS [] digF r false).2.2 <;> rfl
theorem endC_law (sg : Int) (tr : List Int) (ps : List (Int × Bool)) (a : Int) (ws : List ByteArray) : Gives (endT sg tr ps a (datL ws)) (endC sg tr ps a ws false) := by
  cases ws with
  | nil => exact gives_none (endC1_bad sg tr ps a rfl)
  | cons h r =>
    by_cases hh : h = bHo
    · have e1 : endC sg tr ps a (h :: r) false = endC1 sg tr ps a (r, false) := by unfold endC; rw [wordS_hit hh]
      rw [e1]
      cases r with
      | nil => exact gives_none (endC2_bad sg tr ps a rfl)
      | cons d r2 =>
        have e2 : endC1 sg tr ps a (d :: r2, false) = endC2 sg tr ps a ((digS d.data.toList).1, r2, !(digS d.data.toList).2) := rfl
        rw [e2]
        cases hd : (digS d.data.toList).2 with
        | false =>
          have hb : (endC2 sg tr ps a ((digS d.data.toList).1, r2, !false)).2 = false := endC2_bad sg tr ps a rfl
          have hn : numT d.data.toList = none := by rw [digS_num, hd]; rfl
          cases r2 with
          | nil => exact gives_none hb
          | cons c r3 =>
            show Gives (endT sg tr ps a (h.data.toList :: d.data.toList :: c.data.toList :: datL r3)) _
            rw [endT_eq]
            split
            · unfold endO; rw [hn]; exact gives_none hb
            · exact gives_none hb
        | true =>
          cases r2 with
          | nil => exact gives_none (endC3_bad sg tr ps a _ rfl)
          | cons c r3 =>
            show Gives (endT sg tr ps a (h.data.toList :: d.data.toList :: c.data.toList :: datL r3)) _
            rw [endT_eq]
            by_cases hc : c = bCo
            · rw [if_pos ⟨bytes_eq.1 hh, bytes_eq.1 hc⟩]
              have e3 : endC2 sg tr ps a ((digS d.data.toList).1, c :: r3, !true) = endC3 sg tr ps a (digS d.data.toList).1 (r3, false) := by
                unfold endC2
                show endC3 sg tr ps a _ (wordS (c :: r3) false bCo) = _
                rw [wordS_hit hc]
              rw [e3]
              exact endC3_law sg tr ps a d r3 hd
            · rw [if_neg (fun e => hc (bytes_eq.2 e.2))]
              refine gives_none ?_
              unfold endC2
              show (endC3 sg tr ps a _ (wordS (c :: r3) false bCo)).2 = false
              rw [wordS_miss hc]
              exact endC3_bad sg tr ps a _ rfl
    · have hb : (endC sg tr ps a (h :: r) false).2 = false := by unfold endC; rw [wordS_miss hh]; exact endC1_bad sg tr ps a rfl
      have hn : ¬ h.data.toList = wHo := fun e => hh (bytes_eq.2 e)
      cases r with
      | nil => exact gives_none hb
      | cons d r2 =>
        cases r2 with
        | nil => exact gives_none hb
        | cons c r3 =>
          show Gives (endT sg tr ps a (h.data.toList :: d.data.toList :: c.data.toList :: datL r3)) _
          rw [endT_eq, if_neg (fun e => hn e.1)]
          exact gives_none hb
theorem apC_law (sg : Int) (tr : List Int) (ps : List (Int × Bool)) (ws : List ByteArray) : Gives (apT sg tr ps (datL ws)) (apC sg tr ps ws false) := by
  cases ws with
  | nil => exact gives_none (endC1_bad sg tr ps _ rfl)
  | cons q r =>
    show Gives (apT sg tr ps (q.data.toList :: datL r)) _
    rw [apT_eq]
    by_cases hq : q = bAp
    · rw [if_pos (bytes_eq.1 hq)]
      have e1 : apC sg tr ps (q :: r) false = apC1 sg tr ps (r, false) := by
        unfold apC
        rw [if_pos (show headIs (q :: r) bAp = true from decide_eq_true hq), wordS_hit hq]
      rw [e1]
      cases r with
      | nil => exact gives_none (apC2_bad sg tr ps rfl)
      | cons d r2 =>
        show Gives (apO sg tr ps (d.data.toList :: datL r2)) _
        rw [apO_eq, numI_dig]
        have e2 : apC1 sg tr ps (d :: r2, false) = apC2 sg tr ps ((digS d.data.toList).1, r2, !(digS d.data.toList).2) := rfl
        rw [e2]
        cases hd : (digS d.data.toList).2 with
        | false => exact gives_none (apC2_bad sg tr ps rfl)
        | true => exact endC_law sg tr ps _ r2
    · rw [if_neg (fun e => hq (bytes_eq.2 e))]
      have e1 : apC sg tr ps (q :: r) false = endC sg tr ps (-1) (q :: r) false := by
        unfold apC
        rw [if_neg (show ¬ headIs (q :: r) bAp = true from fun e => hq (of_decide_eq_true e))]
      rw [e1]
      exact endC_law sg tr ps (-1) (q :: r)
theorem ptC1_law (sg : Int) (tr : List Int) (r : List ByteArray) : Gives (ptsT sg tr (datL r)) (ptC1 sg tr (r, false)) := by
  obtain ⟨h1, h2⟩ := allS_law [bAp, bHo] ptF ptT isAH (fun q => ptT_ptS q.data.toList) (fun q => by unfold isAH; exact hasS_two wAp wHo q) r
  unfold ptsT ptC1 ptC2
  rw [h2, h1]
  cases hb : (allS [bAp, bHo] ptF r false).2.2 with
  | true => exact gives_none (apC_bad _ _ _ _)
  | false => exact apC_law sg tr _ _
theorem trC2_law (sg : Int) (r : List ByteArray) : Gives (trsT sg (datL r)) (trC1 sg (r, false)) := by
  obtain ⟨h1, h2⟩ := allS_law [bPs] digF numI isPs digF_num (fun q => by unfold isPs; exact hasS_one wPs q) r
  have hh := fun w r2 => @upto_head isPs (datL r) w r2
  unfold trsT trC1 trC2
  rw [h2]
  rw [h1] at hh ⊢
  cases hb : (allS [bPs] digF r false).2.2 with
  | true => exact gives_none (ptC_bad _ _ _)
  | false =>
    show Gives (restT sg _ _) (ptC sg _ _ false)
    generalize (allS [bPs] digF r false).1 = tr at *
    generalize (allS [bPs] digF r false).2.1 = us at *
    cases us with
    | nil => exact gives_none (ptC1_bad sg tr rfl)
    | cons q r2 =>
      have hq : q = bPs := bytes_eq.2 (of_decide_eq_true (hh q.data.toList (datL r2) rfl))
      show Gives (ptsT sg tr (datL r2)) _
      have e : ptC sg tr (q :: r2) false = ptC1 sg tr (r2, false) := by unfold ptC; rw [wordS_hit hq]
      rw [e]
      exact ptC1_law sg tr r2
theorem rtC_law (ws : List ByteArray) : Gives (rtT (datL ws)) (rtC ws false) := by
  cases ws with
  | nil => exact gives_none (rtC1_bad rfl)
  | cons a r =>
    by_cases ha : a = bRo
    · have e1 : rtC (a :: r) false = rtC1 (r, false) := by unfold rtC; rw [wordS_hit ha]
      rw [e1]
      cases r with
      | nil => exact gives_none (rtC2_bad rfl)
      | cons s r2 =>
        have e2 : rtC1 (s :: r2, false) = rtC2 ((digS s.data.toList).1, r2, !(digS s.data.toList).2) := rfl
        rw [e2]
        cases r2 with
        | nil =>
          refine gives_none ?_
          cases hd : (digS s.data.toList).2 with
          | false => exact rtC2_bad rfl
          | true => exact trC1_bad _ rfl
        | cons t r3 =>
          show Gives (rtT (a.data.toList :: s.data.toList :: t.data.toList :: datL r3)) _
          rw [rtT_eq]
          by_cases ht : t = bTr
          · rw [if_pos ⟨bytes_eq.1 ha, bytes_eq.1 ht⟩]
            unfold rtO
            rw [numI_dig]
            cases hd : (digS s.data.toList).2 with
            | false => exact gives_none (rtC2_bad rfl)
            | true =>
              show Gives (trsT ((digS s.data.toList).1 : Int) (datL r3)) (trC ((digS s.data.toList).1 : Int) (t :: r3) false)
              have e : trC ((digS s.data.toList).1 : Int) (t :: r3) false = trC1 ((digS s.data.toList).1 : Int) (r3, false) := by unfold trC; rw [wordS_hit ht]
              rw [e]
              exact trC2_law _ r3
          · rw [if_neg (fun e => ht (bytes_eq.2 e.2))]
            refine gives_none ?_
            cases hd : (digS s.data.toList).2 with
            | false => exact rtC2_bad rfl
            | true =>
              show (trC ((digS s.data.toList).1 : Int) (t :: r3) false).2 = false
              unfold trC; rw [wordS_miss ht]; exact trC1_bad _ rfl
    · have hb : (rtC (a :: r) false).2 = false := by unfold rtC; rw [wordS_miss ha]; exact rtC1_bad rfl
      have hn : ¬ a.data.toList = wRo := fun e => ha (bytes_eq.2 e)
      cases r with
      | nil => exact gives_none hb
      | cons s r2 =>
        cases r2 with
        | nil => exact gives_none hb
        | cons t r3 =>
          show Gives (rtT (a.data.toList :: s.data.toList :: t.data.toList :: datL r3)) _
          rw [rtT_eq, if_neg (fun e => hn e.1)]
          exact gives_none hb
end Go.Proofs.YtpodedhnlicckaaGreatDoor
