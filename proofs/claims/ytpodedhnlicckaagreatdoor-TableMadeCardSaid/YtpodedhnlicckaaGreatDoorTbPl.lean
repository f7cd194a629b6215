/- Plain: a table's text, printed and parsed. -/
import Derived.Test.YtpodedhnlicckaaGreatDoorTab
import Derived.Test.YtpodedhnlicckaaGreatDoorPlT
namespace Go.Proofs.YtpodedhnlicckaaGreatDoor
set_option linter.unusedVariables false
set_option linter.unusedSimpArgs false
set_option maxRecDepth 100000
def wTr : List UInt8 := [116, 114, 97, 99, 107, 115]
def wSi : List UInt8 := [115, 105, 103, 110, 97, 108, 115]
def wPt : List UInt8 := [112, 111, 105, 110, 116]
def wPs : List UInt8 := [112, 111, 105, 110, 116, 115]
def wRo : List UInt8 := [114, 111, 117, 116, 101]
def wAp : List UInt8 := [97, 112, 112, 114, 111, 97, 99, 104]
def wHo : List UInt8 := [104, 111, 108, 100]
def wCo : List UInt8 := [99, 111, 110, 102, 108, 105, 99, 116, 115]
def dI (x : Int) : List UInt8 := Lib.decDigits x.toNat
def inR (x : Int) : Bool := decide (0 ≤ x) && decide (x ≤ 65535)
def ptW (p : Int × Bool) : List UInt8 := dI p.1 ++ [if p.2 then 45 else 43]
def appW (a : Int) : List (List UInt8) := if a = -1 then [] else [wAp, dI a]
def rtW (r : Rt) : List (List UInt8) := wRo :: dI r.sig :: wTr :: (r.tr.map dI ++ wPs :: (r.pts.map ptW ++ (appW r.app ++ wHo :: Lib.decDigits r.hold :: wCo :: r.con.map dI)))
def linesT (T : Tab) : List (List (List UInt8)) := [wTr, dI T.tracks] :: [wSi, dI T.sigs] :: (T.pts.map (fun p => [wPt, dI p]) ++ T.rts.map rtW)
def lineT (ws : List (List UInt8)) : List UInt8 := joinB 32 ws ++ [10]
def textT (T : Tab) : List UInt8 := (linesT T).flatMap lineT
def goodR (r : Rt) : Bool := inR r.sig && (r.tr.all inR && (r.pts.all (fun p => inR p.1) && ((decide (r.app = -1) || inR r.app) && r.con.all inR)))
def goodT (T : Tab) : Bool := inR T.tracks && (inR T.sigs && (T.pts.all inR && T.rts.all goodR))
def printT (T : Tab) : List UInt8 × Nat := if goodT T = false then ([], 2) else if 8000 < (textT T).length then ([], 3) else (textT T, 0)
/-! ### parsing -/
def numI (l : List UInt8) : Option Int := (numT l).map Int.ofNat
def ptE (g : Option UInt8) (l : List UInt8) : Option (Int × Bool) := if g = some 45 ∨ g = some 43 then (numI l).map fun n => (n, decide (g = some 45)) else none
def ptT (l : List UInt8) : Option (Int × Bool) := ptE l.getLast? l.dropLast
def allT {α : Type} (f : List UInt8 → Option α) : List (List UInt8) → Option (List α)
  | [] => some []
  | w :: ws => match f w with | none => none | some x => (match allT f ws with | none => none | some l => some (x :: l))
/-- What stands ahead of the first word of some, and from it on. -/
def upto (p : List UInt8 → Bool) : List (List UInt8) → List (List UInt8) × List (List UInt8)
  | [] => ([], [])
  | w :: ws => if p w then ([], w :: ws) else (w :: (upto p ws).1, (upto p ws).2)
def endO (sg : Int) (tr : List Int) (ps : List (Int × Bool)) (a : Int) (d : List UInt8) (r : List (List UInt8)) : Option Rt :=
  match numT d with | none => none | some n => (match allT numI r with | none => none | some co => some ⟨sg, tr, ps, a, co, n⟩)
def endT (sg : Int) (tr : List Int) (ps : List (Int × Bool)) (a : Int) : List (List UInt8) → Option Rt
  | h :: d :: c :: r => if h = wHo ∧ c = wCo then endO sg tr ps a d r else none
  | _ => none
theorem endT_eq (sg : Int) (tr : List Int) (ps : List (Int × Bool)) (a : Int) (h d c : List UInt8) (r : List (List UInt8)) : endT sg tr ps a (h :: d :: c :: r) = if h = wHo ∧ c = wCo then endO sg tr ps a d r else none := rfl
def apO (sg : Int) (tr : List Int) (ps : List (Int × Bool)) : List (List UInt8) → Option Rt
  | [] => none
  | d :: r => match numI d with | none => none | some a => endT sg tr ps a r
def apT (sg : Int) (tr : List Int) (ps : List (Int × Bool)) : List (List UInt8) → Option Rt
  | [] => none
  | w :: r => if w = wAp then apO sg tr ps r else endT sg tr ps (-1) (w :: r)
theorem apT_eq (sg : Int) (tr : List Int) (ps : List (Int × Bool)) (w : List UInt8) (r : List (List UInt8)) : apT sg tr ps (w :: r) = if w = wAp then apO sg tr ps r else endT sg tr ps (-1) (w :: r) := rfl
theorem apO_eq (sg : Int) (tr : List Int) (ps : List (Int × Bool)) (d : List UInt8) (r : List (List UInt8)) : apO sg tr ps (d :: r) = (match numI d with | none => none | some a => endT sg tr ps a r) := rfl
def isPs (w : List UInt8) : Bool := decide (w = wPs)
def isAH (w : List UInt8) : Bool := decide (w = wAp) || decide (w = wHo)
def ptsT (sg : Int) (tr : List Int) (ws : List (List UInt8)) : Option Rt := match allT ptT (upto isAH ws).1 with | none => none | some ps => apT sg tr ps (upto isAH ws).2
def restT (sg : Int) (tr : List Int) : List (List UInt8) → Option Rt
  | [] => none
  | _ :: r => ptsT sg tr r
def trsT (sg : Int) (ws : List (List UInt8)) : Option Rt := match allT numI (upto isPs ws).1 with | none => none | some tr => restT sg tr (upto isPs ws).2
def rtO (s : List UInt8) (r : List (List UInt8)) : Option Rt := match numI s with | none => none | some sg => trsT sg r
def rtT : List (List UInt8) → Option Rt
  | a :: s :: t :: r => if a = wRo ∧ t = wTr then rtO s r else none
  | _ => none
theorem rtT_eq (a s t : List UInt8) (r : List (List UInt8)) : rtT (a :: s :: t :: r) = if a = wRo ∧ t = wTr then rtO s r else none := rfl
def twoT (w : List UInt8) : List (List UInt8) → Option Int
  | [a, d] => if a = w then numI d else none
  | _ => none
def tab0 : Tab := ⟨0, [], 0, []⟩
def stepT (T : Tab) (n : Nat) (l : List UInt8) : Option Tab :=
  if n = 0 then (twoT wTr (partL 32 l)).map fun x => { T with tracks := x }
  else if n = 1 then (twoT wSi (partL 32 l)).map fun x => { T with sigs := x }
  else if (partL 32 l).head? = some wPt ∧ T.rts = [] then (twoT wPt (partL 32 l)).map fun x => { T with pts := T.pts ++ [x] }
  else (rtT (partL 32 l)).map fun r => { T with rts := T.rts ++ [r] }
def parT : Nat → Tab → List (List UInt8) → Tab × Nat × Nat
  | n, T, [] => (tab0, n + 1, 262)
  | n, T, [l] => if 2 ≤ n ∧ l = [] then (T, 0, 0) else (tab0, n + 1, 262)
  | n, T, l :: m :: r => match stepT T n l with | none => (tab0, n + 1, 262) | some T' => parT (n + 1) T' (m :: r)
def parseT (s : List UInt8) : Tab × Nat × Nat := if 8000 < s.length then (tab0, 0, 3) else parT 0 tab0 (partL 10 s)
/-! ### numbers, lists -/
theorem inR_iff {x : Int} : inR x = true ↔ 0 ≤ x ∧ x ≤ 65535 := by unfold inR; simp
theorem numI_dI {x : Int} (h : inR x = true) : numI (dI x) = some x := by
  obtain ⟨h0, h1⟩ := inR_iff.1 h
  unfold numI dI
  rw [numT_dec (by omega)]
  show some (Int.ofNat x.toNat) = _
  congr 1; exact Int.toNat_of_nonneg h0
theorem numI_inv {l : List UInt8} {x : Int} (h : numI l = some x) : dI x = l ∧ inR x = true := by
  unfold numI at h
  cases hn : numT l with
  | none => rw [hn] at h; cases h
  | some n =>
    rw [hn] at h
    obtain rfl := Option.some.inj h
    obtain ⟨h1, h2⟩ := numT_inv hn
    refine ⟨h1, inR_iff.2 ⟨by show (0 : Int) ≤ (n : Int); omega, by show (n : Int) ≤ 65535; omega⟩⟩
theorem ptT_ptW {p : Int × Bool} (h : inR p.1 = true) : ptT (ptW p) = some p := by
  obtain ⟨x, b⟩ := p
  have h : inR x = true := h
  unfold ptT ptW
  rw [List.getLast?_concat, List.dropLast_concat]
  unfold ptE
  show (if some (if b = true then (45 : UInt8) else 43) = some 45 ∨ some (if b = true then (45 : UInt8) else 43) = some 43 then (numI (dI x)).map _ else none) = some (x, b)
  rw [numI_dI h]
  cases b <;> rfl
theorem ptT_inv {l : List UInt8} {p : Int × Bool} (h : ptT l = some p) : ptW p = l ∧ inR p.1 = true := by
  unfold ptT ptE at h
  by_cases hc : l.getLast? = some 45 ∨ l.getLast? = some 43
  · rw [if_pos hc] at h
    cases hn : numI l.dropLast with
    | none => rw [hn] at h; cases h
    | some x =>
      rw [hn] at h
      obtain rfl := Option.some.inj h
      obtain ⟨h1, h2⟩ := numI_inv hn
      refine ⟨?_, h2⟩
      unfold ptW
      show dI x ++ [if decide (l.getLast? = some 45) = true then 45 else 43] = l
      have hl : l ≠ [] := by rintro rfl; rcases hc with h | h <;> cases h
      have e := List.dropLast_concat_getLast hl
      rw [h1]
      have hg : l.getLast? = some (l.getLast hl) := List.getLast?_eq_some_getLast hl
      rcases hc with h | h
      · rw [decide_eq_true h, if_pos rfl]
        rw [h] at hg
        rw [Option.some.inj hg]; exact e
      · have hn : ¬ l.getLast? = some 45 := by rw [h]; decide
        rw [decide_eq_false hn, if_neg (by decide)]
        rw [h] at hg
        rw [Option.some.inj hg]; exact e
  · rw [if_neg hc] at h; cases h
theorem allT_map {α : Type} {f : List UInt8 → Option α} {g : α → List UInt8} : ∀ {l : List α}, (∀ x ∈ l, f (g x) = some x) → allT f (l.map g) = some l
  | [], _ => rfl
  | x :: l, h => by
    rw [List.map_cons, allT, h x (by simp), allT_map (fun y hy => h y (List.mem_cons_of_mem _ hy))]
theorem allT_inv {α : Type} {f : List UInt8 → Option α} {g : α → List UInt8} {P : α → Bool} (hf : ∀ w x, f w = some x → g x = w ∧ P x = true) : ∀ {ws : List (List UInt8)} {l : List α}, allT f ws = some l → l.map g = ws ∧ l.all P = true
  | [], l, h => by obtain rfl := Option.some.inj h; exact ⟨rfl, rfl⟩
  | w :: ws, l, h => by
    rw [allT] at h
    cases hw : f w with
    | none => rw [hw] at h; cases h
    | some x =>
      rw [hw] at h
      cases hs : allT f ws with
      | none => rw [hs] at h; cases h
      | some l' =>
        rw [hs] at h
        obtain rfl := Option.some.inj h
        obtain ⟨h1, h2⟩ := allT_inv hf hs
        obtain ⟨h3, h4⟩ := hf _ _ hw
        exact ⟨by rw [List.map_cons, h1, h3], by rw [List.all_cons, h2, h4]; rfl⟩
theorem upto_at {p : List UInt8 → Bool} : ∀ {a : List (List UInt8)} {w : List UInt8} {r : List (List UInt8)}, (∀ q ∈ a, p q = false) → p w = true → upto p (a ++ w :: r) = (a, w :: r)
  | [], w, r, _, hw => by show upto p (w :: r) = _; rw [upto, if_pos hw]
  | q :: a, w, r, h, hw => by
    rw [List.cons_append, upto, if_neg (by rw [h q (by simp)]; decide), upto_at (fun y hy => h y (List.mem_cons_of_mem _ hy)) hw]
theorem upto_join (p : List UInt8 → Bool) : ∀ ws, (upto p ws).1 ++ (upto p ws).2 = ws
  | [] => rfl
  | w :: ws => by
    rw [upto]
    split
    · rfl
    · rw [List.cons_append, upto_join p ws]
theorem upto_head {p : List UInt8 → Bool} : ∀ {ws : List (List UInt8)} {w : List UInt8} {r : List (List UInt8)}, (upto p ws).2 = w :: r → p w = true
  | [], w, r, h => by cases h
  | q :: ws, w, r, h => by
    rw [upto] at h
    by_cases hq : p q = true
    · rw [if_pos hq] at h
      rw [← (List.cons.inj h).1]; exact hq
    · rw [if_neg hq] at h
      exact upto_head h
/-! ### a route's line -/
theorem dI_head (x : Int) : ∃ d r, dI x = d :: r ∧ isDig d = true := dec_head _
theorem not_word {w : List UInt8} {d : UInt8} {r : List UInt8} (h : w = d :: r) (hd : isDig d = true) : isPs w = false ∧ isAH w = false := by
  subst h
  have n : ∀ c, isDig c = false → d ≠ c := fun c hc e => by rw [e, hc] at hd; cases hd
  constructor
  · unfold isPs; exact decide_eq_false fun e => n 112 (by decide) (List.cons.inj e).1
  · unfold isAH
    have h1 : ¬ (d :: r = wAp) := fun e => n 97 (by decide) (List.cons.inj e).1
    have h2 : ¬ (d :: r = wHo) := fun e => n 104 (by decide) (List.cons.inj e).1
    rw [decide_eq_false h1, decide_eq_false h2]; rfl
theorem ptW_head (p : Int × Bool) : ∃ d r, ptW p = d :: r ∧ isDig d = true := by
  obtain ⟨d, r, e, hd⟩ := dI_head p.1
  exact ⟨d, r ++ [if p.2 then 45 else 43], by unfold ptW; rw [e]; rfl, hd⟩
theorem endT_of {sg : Int} {tr : List Int} {ps : List (Int × Bool)} {a : Int} {co : List Int} {ho : Nat} (hh : ho ≤ 65535) (hc : ∀ x ∈ co, inR x = true) :
    endT sg tr ps a (wHo :: Lib.decDigits ho :: wCo :: co.map dI) = some ⟨sg, tr, ps, a, co, ho⟩ := by
  rw [endT_eq, if_pos ⟨rfl, rfl⟩]
  unfold endO
  rw [numT_dec hh]
  simp only [allT_map (f := numI) (g := dI) (fun x hx => numI_dI (hc x hx))]
theorem rtT_rtW {r : Rt} (h : goodR r = true) (hh : r.hold ≤ 65535) : rtT (rtW r) = some r := by
  unfold goodR at h
  simp only [Bool.and_eq_true, Bool.or_eq_true, List.all_eq_true, decide_eq_true_eq] at h
  obtain ⟨hs, ht, hp, ha, hc⟩ := h
  obtain ⟨sg, tr, ps, ap, co, ho⟩ := r
  simp only at *
  have e1 : ∀ rest, upto isPs (tr.map dI ++ wPs :: rest) = (tr.map dI, wPs :: rest) := fun rest => upto_at (fun q hq => by
    obtain ⟨x, _, rfl⟩ := List.mem_map.1 hq
    obtain ⟨d, r, e, hd⟩ := dI_head x
    exact (not_word e hd).1) (by decide)
  have e2 : ∀ w rest, isAH w = true → upto isAH (ps.map ptW ++ w :: rest) = (ps.map ptW, w :: rest) := fun w rest hw => upto_at (fun q hq => by
    obtain ⟨x, _, rfl⟩ := List.mem_map.1 hq
    obtain ⟨d, r, e, hd⟩ := ptW_head x
    exact (not_word e hd).2) hw
  have e3 : allT numI (tr.map dI) = some tr := allT_map fun x hx => numI_dI (ht x hx)
  have e4 : allT ptT (ps.map ptW) = some ps := allT_map fun x hx => ptT_ptW (hp x hx)
  have e5 : ∀ rest, trsT sg (tr.map dI ++ wPs :: rest) = ptsT sg tr rest := fun rest => by unfold trsT; rw [e1]; simp only [e3]; rfl
  have e6 : ∀ w rest, isAH w = true → ptsT sg tr (ps.map ptW ++ w :: rest) = apT sg tr ps (w :: rest) := fun w rest hw => by unfold ptsT; rw [e2 w rest hw]; simp only [e4]
  have e7 : ∀ rest, rtO (dI sg) rest = trsT sg rest := fun rest => by unfold rtO; rw [numI_dI hs]
  unfold rtW
  rw [rtT_eq, if_pos ⟨rfl, rfl⟩, e7, e5]
  unfold appW
  by_cases hap : ap = -1
  · subst hap
    rw [if_pos rfl, List.nil_append, e6 _ _ (by decide), apT_eq, if_neg (by decide)]
    exact endT_of hh hc
  · rw [if_neg hap]
    show ptsT sg tr (ps.map ptW ++ wAp :: dI ap :: wHo :: Lib.decDigits ho :: wCo :: co.map dI) = _
    rw [e6 _ _ (by decide), apT_eq, if_pos rfl, apO_eq, numI_dI (ha.resolve_left hap)]
    exact endT_of hh hc
theorem endT_inv {sg : Int} {tr : List Int} {ps : List (Int × Bool)} {a : Int} {ws : List (List UInt8)} {r : Rt} (h : endT sg tr ps a ws = some r) :
    r.sig = sg ∧ r.tr = tr ∧ r.pts = ps ∧ r.app = a ∧ ws = wHo :: Lib.decDigits r.hold :: wCo :: r.con.map dI ∧ r.hold ≤ 65535 ∧ r.con.all inR = true := by
  match ws, h with
  | [], h => cases h
  | [_], h => cases h
  | [_, _], h => cases h
  | x :: d :: c :: rest, h =>
    rw [endT_eq] at h
    by_cases hc : x = wHo ∧ c = wCo
    · rw [if_pos hc] at h
      obtain ⟨rfl, rfl⟩ := hc
      unfold endO at h
      cases hn : numT d with
      | none => rw [hn] at h; cases h
      | some n =>
        rw [hn] at h
        simp only at h
        cases hl : allT numI rest with
        | none => rw [hl] at h; cases h
        | some co =>
          rw [hl] at h
          obtain rfl := Option.some.inj h
          obtain ⟨h1, h2⟩ := numT_inv hn
          obtain ⟨h3, h4⟩ := allT_inv (g := dI) (P := inR) (fun w x => numI_inv) hl
          exact ⟨rfl, rfl, rfl, rfl, by rw [h1, h3], h2, h4⟩
    · rw [if_neg hc] at h; cases h
theorem apT_inv {sg : Int} {tr : List Int} {ps : List (Int × Bool)} {ws : List (List UInt8)} {r : Rt} (h : apT sg tr ps ws = some r) :
    r.sig = sg ∧ r.tr = tr ∧ r.pts = ps ∧ ws = appW r.app ++ wHo :: Lib.decDigits r.hold :: wCo :: r.con.map dI ∧ (r.app = -1 ∨ inR r.app = true) ∧ r.hold ≤ 65535 ∧ r.con.all inR = true := by
  cases ws with
  | nil => cases h
  | cons w rest =>
    rw [apT_eq] at h
    by_cases hw : w = wAp
    · rw [if_pos hw] at h
      subst hw
      cases rest with
      | nil => cases h
      | cons d r' =>
        rw [apO_eq] at h
        cases hn : numI d with
        | none => rw [hn] at h; cases h
        | some a =>
          rw [hn] at h
          obtain ⟨h1, h2, h3, h4, h5, h6, h7⟩ := endT_inv h
          obtain ⟨k1, k2⟩ := numI_inv hn
          refine ⟨h1, h2, h3, ?_, .inr (by rw [h4]; exact k2), h6, h7⟩
          have hne : ¬ r.app = -1 := by rw [h4]; intro e; have := (inR_iff.1 k2).1; omega
          unfold appW
          rw [if_neg hne, h5, h4, k1]; rfl
    · rw [if_neg hw] at h
      obtain ⟨h1, h2, h3, h4, h5, h6, h7⟩ := endT_inv h
      refine ⟨h1, h2, h3, ?_, .inl h4, h6, h7⟩
      unfold appW
      rw [if_pos h4, h5]; rfl
theorem rtT_inv {ws : List (List UInt8)} {r : Rt} (h : rtT ws = some r) : rtW r = ws ∧ goodR r = true ∧ r.hold ≤ 65535 := by
  match ws, h with
  | [], h => cases h
  | [_], h => cases h
  | [_, _], h => cases h
  | a :: s :: t :: rest, h =>
    rw [rtT_eq] at h
    by_cases hc : a = wRo ∧ t = wTr
    · rw [if_pos hc] at h
      obtain ⟨rfl, rfl⟩ := hc
      unfold rtO at h
      cases hn : numI s with
      | none => rw [hn] at h; cases h
      | some sg =>
        rw [hn] at h
        simp only at h
        unfold trsT at h
        have hj := upto_join isPs rest
        have hh := fun w r2 => @upto_head isPs rest w r2
        generalize upto isPs rest = u at *
        obtain ⟨u1, u2⟩ := u
        simp only at h hj hh
        cases ht : allT numI u1 with
        | none => rw [ht] at h; cases h
        | some tr =>
          rw [ht] at h
          simp only at h
          cases u2 with
          | nil => cases h
          | cons w r2 =>
            change ptsT sg tr r2 = some r at h
            unfold ptsT at h
            have hw : w = wPs := of_decide_eq_true (hh w r2 rfl)
            subst hw
            have hj2 := upto_join isAH r2
            generalize upto isAH r2 = v at *
            obtain ⟨v1, v2⟩ := v
            simp only at h hj2
            cases hp : allT ptT v1 with
            | none => rw [hp] at h; cases h
            | some ps =>
              rw [hp] at h
              obtain ⟨h1, h2, h3, h4, h5, h6, h7⟩ := apT_inv h
              obtain ⟨k1, k2⟩ := numI_inv hn
              obtain ⟨k3, k4⟩ := allT_inv (g := dI) (P := inR) (fun w x => numI_inv) ht
              obtain ⟨k5, k6⟩ := allT_inv (g := ptW) (P := fun p => inR p.1) (fun w x => ptT_inv) hp
              refine ⟨?_, ?_, h6⟩
              · unfold rtW
                rw [h1, h2, h3, k1, k3, k5, ← hj, ← hj2, h4]
              · unfold goodR
                rw [h1, h2, h3, k2, k4, k6, h7]
                rw [show (decide (r.app = -1) || inR r.app) = true by rw [Bool.or_eq_true, decide_eq_true_eq]; exact h5]; rfl
    · rw [if_neg hc] at h; cases h
end Go.Proofs.YtpodedhnlicckaaGreatDoor
