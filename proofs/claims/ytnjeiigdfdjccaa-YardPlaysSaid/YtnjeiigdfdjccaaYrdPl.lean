/- The yard in plain words: trains, points, moves, frames. -/
import Derived.Test.YtnjeiigdfdjccaaAutSfP
import Derived.Test.YtnjeiigdfdjccaaAutOT
import Derived.Test.YtnjeiigdfdjccaaAutSt
namespace Go.Proofs.Ytnjeiigdfdjccaa
set_option linter.unusedVariables false
set_option linter.unusedSimpArgs false
/-- A train that may be there. -/
structure TN where
  (is mv : Bool)
  (tl hd : Nat)
def tn0 : TN := ⟨false, false, 0, 0⟩
/-- A point: where it stands or goes to, for how long still, whether it is broken. -/
structure PN where
  (sd lf : Nat)
  br : Bool
structure YS where
  A : AS
  L : OD
  tn : Nat → TN
  pn : Nat → PN
structure MV where
  kd : Nat
  n : Int
def ys0 : YS := ⟨as0, od0, fun _ => tn0, fun _ => ⟨1, 0, false⟩⟩
/-- May a train not go on? -/
def stuckB (last : Nat) (x : TN) (h t : Bool) : Bool := x.mv || ((h && !(x.tl == x.hd)) || ((h && !t && x.hd == last) || (t && !h && (x.tl == x.hd) && x.hd != last)))
def goneB (last : Nat) (x : TN) (t : Bool) : Bool := t && (x.tl == x.hd) && x.hd == last
def goneOn (last : Nat) (x : TN) (h t : Bool) : TN := if goneB last x t then tn0 else ⟨x.is, true, if t then x.tl + 1 else x.tl, if h then x.hd + 1 else x.hd⟩
def YS.setT (Y : YS) (n : Nat) (x : TN) : YS := { Y with tn := fun j => if j = n then x else Y.tn j }
def YS.setP (Y : YS) (n : Nat) (x : PN) : YS := { Y with pn := fun j => if j = n then x else Y.pn j }
def enterB (T : Tab) (Y : YS) (n : Nat) : Bool := !(Y.tn n).is && (Y.L.pr.testBit (T.rts.getD n rt0).sig.toNat && (Y.A.R n).ph == 1)
def manyN (T : Tab) (k : Nat) : Nat := if k = 7 ∨ k = 8 then T.pts.length else T.rts.length
/-- What is answered to a move. -/
def ansN (T : Tab) (Y : YS) (m : MV) : Nat :=
  if m.kd < 1 ∨ 8 < m.kd then 2
  else if m.n < 0 ∨ (manyN T m.kd : Int) ≤ m.n then 4
  else if 4 ≤ m.kd ∧ m.kd ≤ 6 ∧ (Y.tn m.n.toNat).is = false then 4
  else if m.kd = 3 then (if enterB T Y m.n.toNat then 0 else 6)
  else if 4 ≤ m.kd ∧ m.kd ≤ 6 then (if stuckB ((T.rts.getD m.n.toNat rt0).tr.length - 1) (Y.tn m.n.toNat) (m.kd != 5) (m.kd != 4) then 6 else 0)
  else 0
/-- What a move turns, if it is answered by 0. -/
def doY (T : Tab) (Y : YS) (m : MV) : YS :=
  if m.kd = 3 then Y.setT m.n.toNat ⟨true, true, 0, 0⟩
  else if m.kd = 4 ∨ m.kd = 5 ∨ m.kd = 6 then Y.setT m.n.toNat (goneOn ((T.rts.getD m.n.toNat rt0).tr.length - 1) (Y.tn m.n.toNat) (m.kd != 5) (m.kd != 4))
  else if m.kd = 7 ∨ m.kd = 8 then Y.setP m.n.toNat { Y.pn m.n.toNat with br := m.kd == 7 }
  else Y
def doF (f : FD) (m : MV) : FD :=
  if m.kd = 1 then { f with ak := f.ak ||| 2 ^ m.n.toNat } else if m.kd = 2 then { f with ca := f.ca ||| 2 ^ m.n.toNat } else f
def moveY (T : Tab) (Y : YS) (m : MV) : YS := if ansN T Y m = 0 then doY T Y m else Y
def moveF (T : Tab) (Y : YS) (f : FD) (m : MV) : FD := if ansN T Y m = 0 then doF f m else f
def movesY (T : Tab) (Y : YS) : List MV → YS
  | [] => Y
  | m :: l => movesY T (moveY T Y m) l
def movesF (T : Tab) (Y : YS) (f : FD) : List MV → FD
  | [] => f
  | m :: l => movesF T (moveY T Y m) (moveF T Y f m) l
def movesE (T : Tab) (Y : YS) : List MV → List Nat
  | [] => []
  | m :: l => ansN T Y m :: movesE T (moveY T Y m) l
/-- The sections on which a train stands. -/
def stands (l : List Int) (x : TN) : List Int := (l.take (x.hd + 1)).drop x.tl
def onB (T : Tab) (tn : Nat → TN) (n : Nat) (x : Int) : Bool := (tn n).is && hasI (stands (T.rts.getD n rt0).tr (tn n)) x
def onN (T : Tab) (tn : Nat → TN) (x : Int) : Nat → Nat
  | 0 => 0
  | k + 1 => if onB T tn k x then onN T tn x k + 1 else onN T tn x k
def clearB (T : Tab) (tn : Nat → TN) (x : Int) : Bool := decide (0 ≤ x) && (decide (x < T.tracks) && onN T tn x T.rts.length == 0)
def clN (T : Tab) (tn : Nat → TN) : Nat → Nat
  | 0 => 0
  | k + 1 => if clearB T tn (k : Int) then clN T tn k ||| 2 ^ k else clN T tn k
def stillB (p : PN) : Bool := !p.br && p.lf == 0
def fnN (pn : Nat → PN) : Nat → Nat
  | 0 => 0
  | k + 1 => if stillB (pn k) && (pn k).sd == 1 then fnN pn k ||| 2 ^ k else fnN pn k
def frN (pn : Nat → PN) : Nat → Nat
  | 0 => 0
  | k + 1 => if stillB (pn k) && (pn k).sd != 1 then frN pn k ||| 2 ^ k else frN pn k
def feedsF (T : Tab) (Y : YS) (f : FD) : FD := { f with cl := clN T Y.tn T.tracks.toNat, no := fnN Y.pn T.pts.length, re := frN Y.pn T.pts.length }
def freshY (Y : YS) : YS := { Y with tn := fun n => { Y.tn n with mv := false } }
def tickY (Y : YS) : YS := { Y with pn := fun n => { Y.pn n with lf := (Y.pn n).lf - 1 } }
def toN (o : OD) (n : Nat) (p : PN) : Nat := if o.no.testBit n then 1 else if o.re.testBit n then 2 else p.sd
def turnP (o : OD) (d n : Nat) (p : PN) : PN := if toN o n p = p.sd then p else ⟨toN o n p, d + 1, p.br⟩
def turnY (T : Tab) (d : Nat) (f : FD) (Y : YS) : YS := ⟨stepS T f Y.A, orderS T f (stepS T f Y.A), Y.tn, fun n => turnP (orderS T f (stepS T f Y.A)) d n (Y.pn n)⟩
def fd00 : FD := ⟨0, 0, 0, 0, 0, 0⟩
/-- A frame. -/
def midY (T : Tab) (Y : YS) (l : List MV) : YS := tickY (movesY T (freshY Y) l)
def feedY (T : Tab) (Y : YS) (l : List MV) : FD := feedsF T (midY T Y l) (movesF T (freshY Y) fd00 l)
def frameY (T : Tab) (d : Nat) (Y : YS) (l : List MV) : YS := turnY T d (feedY T Y l) (midY T Y l)
def errsY (T : Tab) (Y : YS) (l : List MV) : List Nat := movesE T (freshY Y) l
def framesY (T : Tab) (d : Nat) (Y : YS) : List (List MV) → YS
  | [] => Y
  | x :: l => framesY T d (frameY T d Y x) l
/-- What a point is told to be. -/
def pointN (p : PN) : Nat := if 0 < p.lf then 0 else p.sd
/-- How a yard stands at the end of each frame. -/
structure YInv (T : Tab) (Y : YS) : Prop where
  ok : Y.A.Ok
  inv : Inv T Y.A
  tr : ∀ n, n < T.rts.length → (Y.tn n).is = true → (Y.tn n).tl ≤ (Y.tn n).hd ∧ (Y.tn n).hd ≤ (Y.tn n).tl + 1 ∧ (Y.tn n).hd < (T.rts.getD n rt0).tr.length ∧ Y.A.R n = ⟨3, 0, ones ((Y.tn n).hd + 1), ones (Y.tn n).tl⟩
  no : ∀ n, n < T.rts.length → (Y.tn n).is = false → (Y.A.R n).ph ≠ 3
  st : ∀ n, n < T.rts.length → (Y.tn n).is = true → ∀ p ∈ (T.rts.getD n rt0).pts, (Y.pn p.1.toNat).sd = needP p ∧ (Y.pn p.1.toNat).lf = 0
  go : ∀ n, n < T.rts.length → (Y.A.R n).ph = 1 → Y.L.pr.testBit (T.rts.getD n rt0).sig.toNat = true → (∀ p ∈ (T.rts.getD n rt0).pts, (Y.pn p.1.toNat).sd = needP p ∧ (Y.pn p.1.toNat).lf = 0) ∧ ∀ x ∈ (T.rts.getD n rt0).tr, onN T Y.tn x T.rts.length = 0
  cm : ∀ p, p < T.pts.length → Y.A.C p ≠ 0 → (Y.pn p).sd = Y.A.C p
  t12 : ∀ p, (Y.pn p).sd = 1 ∨ (Y.pn p).sd = 2
  ord : ∃ f, Y.L = orderS T f Y.A
theorem setT_at {Y : YS} {n : Nat} {x : TN} : (Y.setT n x).tn n = x := if_pos rfl
theorem setT_ne {Y : YS} {n m : Nat} {x : TN} (h : m ≠ n) : (Y.setT n x).tn m = Y.tn m := if_neg h
end Go.Proofs.Ytnjeiigdfdjccaa
/- The yard: what is fed; a frame's moves. -/
namespace Go.Proofs.Ytnjeiigdfdjccaa
set_option linter.unusedVariables false
set_option linter.unusedSimpArgs false
theorem onN_zero {T : Tab} {tn : Nat → TN} {x : Int} : ∀ {k : Nat}, onN T tn x k = 0 ↔ ∀ n, n < k → onB T tn n x = false
  | 0 => ⟨fun _ n h => absurd h (by omega), fun _ => rfl⟩
  | k + 1 => by
    have ih := onN_zero (T := T) (tn := tn) (x := x) (k := k)
    simp only [onN]
    split
    · rename_i h
      constructor
      · intro h2; omega
      · intro h2; have := h2 k (by omega); rw [h] at this; cases this
    · rename_i h
      rw [ih]
      constructor
      · intro h2 n hn
        by_cases e : n = k
        · subst e; simpa using h
        · exact h2 n (by omega)
      · intro h2 n hn; exact h2 n (by omega)
theorem onN_le {T : Tab} {tn : Nat → TN} {x : Int} : ∀ {k : Nat}, (∀ n m, n < k → m < k → n ≠ m → onB T tn n x = true → onB T tn m x = false) → onN T tn x k ≤ 1
  | 0, _ => Nat.zero_le _
  | k + 1, h => by
    simp only [onN]
    split
    · rename_i hk
      have : onN T tn x k = 0 := onN_zero.2 fun n hn => by
        cases hb : onB T tn n x with
        | false => rfl
        | true => have := h n k (by omega) (by omega) (by omega) hb; rw [hk] at this; cases this
      omega
    · exact onN_le fun n m hn hm => h n m (by omega) (by omega)
theorem hasI_mem {l : List Int} {x : Int} : hasI l x = true ↔ x ∈ l := by
  rw [hasI_iff]
  constructor
  · rintro ⟨j, hj, e⟩; rw [← e]; exact getD_mem hj
  · intro h; exact mem_getD h
theorem stands_iff {l : List Int} {t : TN} {y : Int} : hasI (stands l t) y = true ↔ ∃ j, t.tl ≤ j ∧ j ≤ t.hd ∧ j < l.length ∧ l.getD j 0 = y := by
  rw [hasI_mem]
  unfold stands
  rw [List.mem_iff_getElem?]
  constructor
  · rintro ⟨i, hi⟩
    rw [List.getElem?_drop, List.getElem?_take] at hi
    split at hi
    · rename_i h1
      obtain ⟨h2, h3⟩ := List.getElem?_eq_some_iff.1 hi
      exact ⟨t.tl + i, by omega, by omega, h2, by rw [List.getD_eq_getElem?_getD, hi]; rfl⟩
    · cases hi
  · rintro ⟨j, h1, h2, h3, h4⟩
    refine ⟨j - t.tl, ?_⟩
    rw [List.getElem?_drop, List.getElem?_take, show t.tl + (j - t.tl) = j by omega, if_pos (by omega)]
    rw [List.getD_eq_getElem?_getD, List.getElem?_eq_getElem h3] at h4
    rw [List.getElem?_eq_getElem h3]
    exact congrArg some h4
theorem setbit_bit {x k j : Nat} : (x ||| 2 ^ k).testBit j = (x.testBit j || decide (k = j)) := by
  rw [Nat.testBit_or, Nat.testBit_two_pow]
theorem clN_bit {T : Tab} {tn : Nat → TN} (j : Nat) : ∀ k, (clN T tn k).testBit j = (decide (j < k) && clearB T tn (j : Int))
  | 0 => by simp [clN]
  | k + 1 => by
    have ih := clN_bit (T := T) (tn := tn) j k
    simp only [clN]
    by_cases e : j = k
    · subst e
      split
      · rename_i h; rw [setbit_bit, ih, h]; simp
      · rename_i h; rw [ih]; simp [h]
    · have e1 : decide (j < k + 1) = decide (j < k) := decide_eq_decide.2 (by omega)
      split
      · rw [setbit_bit, ih, e1, show decide (k = j) = false from decide_eq_false (fun h => e h.symm), Bool.or_false]
      · rw [ih, e1]
theorem fnN_bit {pn : Nat → PN} (j : Nat) : ∀ k, (fnN pn k).testBit j = (decide (j < k) && (stillB (pn j) && (pn j).sd == 1))
  | 0 => by simp [fnN]
  | k + 1 => by
    have ih := fnN_bit (pn := pn) j k
    simp only [fnN]
    by_cases e : j = k
    · subst e
      split
      · rename_i h; rw [setbit_bit, ih, h]; simp
      · rename_i h; rw [ih]; simp [h]
    · have e1 : decide (j < k + 1) = decide (j < k) := decide_eq_decide.2 (by omega)
      split
      · rw [setbit_bit, ih, e1, show decide (k = j) = false from decide_eq_false (fun h => e h.symm), Bool.or_false]
      · rw [ih, e1]
theorem frN_bit {pn : Nat → PN} (j : Nat) : ∀ k, (frN pn k).testBit j = (decide (j < k) && (stillB (pn j) && (pn j).sd != 1))
  | 0 => by simp [frN]
  | k + 1 => by
    have ih := frN_bit (pn := pn) j k
    simp only [frN]
    by_cases e : j = k
    · subst e
      split
      · rename_i h; rw [setbit_bit, ih, h]; simp
      · rename_i h; rw [ih]; simp [h]
    · have e1 : decide (j < k + 1) = decide (j < k) := decide_eq_decide.2 (by omega)
      split
      · rw [setbit_bit, ih, e1, show decide (k = j) = false from decide_eq_false (fun h => e h.symm), Bool.or_false]
      · rw [ih, e1]
/-- A track that is there, as fed. -/
theorem fed_clear {T : Tab} {Y : YS} {f : FD} {x : Int} (h0 : 0 ≤ x) (h1 : x < T.tracks) : bt (feedsF T Y f).cl x = (onN T Y.tn x T.rts.length == 0) := by
  unfold bt feedsF
  rw [clN_bit, decide_eq_true (by omega), Bool.true_and]
  unfold clearB
  rw [show ((x.toNat : Nat) : Int) = x by omega, decide_eq_true h0, decide_eq_true h1, Bool.true_and, Bool.true_and]
/-- Of a route behind some moves of a frame. -/
structure MidN (T : Tab) (Y0 Y : YS) (n : Nat) : Prop where
  ord : (Y.tn n).is = true → (Y.tn n).tl ≤ (Y.tn n).hd ∧ (Y.tn n).hd ≤ (Y.tn n).tl + 1 ∧ (Y.tn n).hd < (T.rts.getD n rt0).tr.length
  on : (Y0.tn n).is = true → (Y.tn n).is = true → (Y0.tn n).tl ≤ (Y.tn n).tl ∧ (Y0.tn n).hd ≤ (Y.tn n).hd ∧ (Y.tn n).tl ≤ (Y0.tn n).hd + 1
  gone : (Y0.tn n).is = true → (Y.tn n).is = false → (Y0.tn n).hd + 1 = (T.rts.getD n rt0).tr.length
  came : (Y0.tn n).is = false → (Y.tn n).is = true → (Y.tn n).tl = 0 ∧ (Y.tn n).hd = 0 ∧ (Y0.A.R n).ph = 1 ∧ Y0.L.pr.testBit (T.rts.getD n rt0).sig.toNat = true
  mv : (Y.tn n).mv = false → (Y.tn n).is = true → (Y0.tn n).is = true ∧ (Y.tn n).tl = (Y0.tn n).tl ∧ (Y.tn n).hd = (Y0.tn n).hd
structure MidY (T : Tab) (Y0 Y : YS) : Prop where
  A : Y.A = Y0.A
  L : Y.L = Y0.L
  tn : ∀ n, n < T.rts.length → MidN T Y0 Y n
  pn : ∀ p, (Y.pn p).sd = (Y0.pn p).sd ∧ (Y.pn p).lf = (Y0.pn p).lf
theorem mid_fresh {T : Tab} {Y : YS} (h : YInv T Y) : MidY T Y (freshY Y) := by
  refine ⟨rfl, rfl, fun n hn => ⟨fun hi => ?_, fun hi _ => ?_, fun a b => ?_, fun a b => ?_, fun _ hi => ⟨hi, rfl, rfl⟩⟩, fun p => ⟨rfl, rfl⟩⟩
  · have := h.tr n hn hi; exact ⟨this.1, this.2.1, this.2.2.1⟩
  · have := h.tr n hn hi; exact ⟨Nat.le_refl _, Nat.le_refl _, by show (Y.tn n).tl ≤ (Y.tn n).hd + 1; omega⟩
  · have b' : (Y.tn n).is = false := b
    rw [a] at b'; cases b'
  · have b' : (Y.tn n).is = true := b
    rw [a] at b'; cases b'
theorem midN_ext {T : Tab} {Y0 Y Y' : YS} {n : Nat} (h : MidN T Y0 Y n) (e : Y'.tn n = Y.tn n) : MidN T Y0 Y' n := by
  obtain ⟨a, b, c, d, e'⟩ := h
  exact ⟨by rw [e]; exact a, by rw [e]; exact b, by rw [e]; exact c, by rw [e]; exact d, by rw [e]; exact e'⟩
theorem mid_setT {T : Tab} {Y0 Y : YS} {n : Nat} {x : TN} (h : MidY T Y0 Y) (hx : n < T.rts.length → MidN T Y0 (Y.setT n x) n) : MidY T Y0 (Y.setT n x) :=
  ⟨h.A, h.L, fun m hm => by
    by_cases e : m = n
    · subst e; exact hx hm
    · exact midN_ext (h.tn m hm) (setT_ne e), h.pn⟩
/-- A train that goes on: gone, or where it then stands. -/
theorem goneOn_spec {L k : Nat} {x : TN} (hi : x.is = true) (hL : 0 < L) (h1 : x.tl ≤ x.hd) (h2 : x.hd ≤ x.tl + 1) (h3 : x.hd < L) (k4 : 4 ≤ k ∧ k ≤ 6) (hs : stuckB (L - 1) x (k != 5) (k != 4) = false) :
    (goneOn (L - 1) x (k != 5) (k != 4) = tn0 ∧ x.tl = x.hd ∧ x.hd + 1 = L) ∨ ∃ t h, goneOn (L - 1) x (k != 5) (k != 4) = ⟨true, true, t, h⟩ ∧ t ≤ h ∧ h ≤ t + 1 ∧ h < L ∧ x.tl ≤ t ∧ x.hd ≤ h ∧ t ≤ x.hd + 1 := by
  obtain ⟨is, mv, tl, hd⟩ := x
  simp only at hi h1 h2 h3
  subst hi
  unfold stuckB at hs
  unfold goneOn goneB
  dsimp only
  have hk : k = 4 ∨ k = 5 ∨ k = 6 := by omega
  by_cases e : tl = hd
  · subst e
    by_cases l : tl = L - 1
    · rcases hk with rfl | rfl | rfl
      · simp [l] at hs
      · left; simp [l]; omega
      · left; simp [l]; omega
    · rcases hk with rfl | rfl | rfl
      · right; exact ⟨tl, tl + 1, by simp [l], by omega, by omega, by omega, by omega, by omega, by omega⟩
      · simp [l] at hs
      · right; exact ⟨tl + 1, tl + 1, by simp [l], by omega, by omega, by omega, by omega, by omega, by omega⟩
  · rcases hk with rfl | rfl | rfl
    · simp [e] at hs
    · right; exact ⟨tl + 1, hd, by simp [e], by omega, by omega, by omega, by omega, by omega, by omega⟩
    · simp [e] at hs
theorem mid_gone {T : Tab} {Y0 Y : YS} {n : Nat} {x : TN} (hg : (x = tn0 ∧ (Y0.tn n).tl = (Y0.tn n).hd ∧ (Y0.tn n).hd + 1 = (T.rts.getD n rt0).tr.length) ∨ ∃ t h, x = ⟨true, true, t, h⟩ ∧ t ≤ h ∧ h ≤ t + 1 ∧ h < (T.rts.getD n rt0).tr.length ∧ (Y0.tn n).tl ≤ t ∧ (Y0.tn n).hd ≤ h ∧ t ≤ (Y0.tn n).hd + 1) (i0 : (Y0.tn n).is = true) : MidN T Y0 (Y.setT n x) n := by
  rcases hg with ⟨rfl, ht, hh⟩ | ⟨t, h, rfl, a1, a2, a3, a4, a5, a6⟩
  · refine ⟨fun hi => ?_, fun _ hi => ?_, fun _ _ => hh, fun hi _ => ?_, fun _ hi => ?_⟩
    · rw [setT_at] at hi; cases hi
    · rw [setT_at] at hi; cases hi
    · rw [i0] at hi; cases hi
    · rw [setT_at] at hi; cases hi
  · refine ⟨fun _ => ?_, fun _ _ => ?_, fun _ hi => ?_, fun hi _ => ?_, fun hm _ => ?_⟩
    · rw [setT_at]; exact ⟨a1, a2, a3⟩
    · rw [setT_at]; exact ⟨a4, a5, a6⟩
    · rw [setT_at] at hi; cases hi
    · rw [i0] at hi; cases hi
    · rw [setT_at] at hm; cases hm
theorem mid_move {T : Tab} {Y0 Y : YS} {m : MV} (hT : ∀ n, n < T.rts.length → 0 < (T.rts.getD n rt0).tr.length) (h0 : YInv T Y0) (h : MidY T Y0 Y) : MidY T Y0 (moveY T Y m) := by
  unfold moveY
  split
  · rename_i ha
    unfold ansN at ha
    unfold doY
    split at ha
    · cases ha
    split at ha
    · cases ha
    split at ha
    · cases ha
    rename_i c1 c2 c3
    by_cases k3 : m.kd = 3
    · rw [if_pos k3] at ha ⊢
      refine mid_setT h fun hn => ?_
      have he : enterB T Y m.n.toNat = true := by
        cases hb : enterB T Y m.n.toNat with
        | true => rfl
        | false => rw [hb] at ha; cases ha
      unfold enterB at he
      rw [h.A, h.L] at he
      simp only [Bool.and_eq_true, Bool.not_eq_true', beq_iff_eq] at he
      obtain ⟨e1, e2, e3⟩ := he
      have hno : (Y0.tn m.n.toNat).is = false := by
        cases hb : (Y0.tn m.n.toNat).is with
        | false => rfl
        | true => have := (h0.tr _ hn hb).2.2.2; rw [this] at e3; cases e3
      refine ⟨fun _ => ?_, fun hi => ?_, fun hi => ?_, fun _ _ => ?_, fun hm => ?_⟩
      · rw [setT_at]; exact ⟨Nat.le_refl _, Nat.zero_le _, hT _ hn⟩
      · rw [hno] at hi; cases hi
      · rw [hno] at hi; cases hi
      · rw [setT_at]; exact ⟨rfl, rfl, e3, e2⟩
      · rw [setT_at] at hm; cases hm
    · rw [if_neg k3] at ha ⊢
      by_cases k4 : 4 ≤ m.kd ∧ m.kd ≤ 6
      · rw [if_pos k4] at ha
        rw [if_pos (by omega)]
        refine mid_setT h fun hn => ?_
        have hi : (Y.tn m.n.toNat).is = true := by
          cases hb : (Y.tn m.n.toNat).is with
          | true => rfl
          | false => exact absurd ⟨k4.1, k4.2, hb⟩ c3
        have hs : stuckB ((T.rts.getD m.n.toNat rt0).tr.length - 1) (Y.tn m.n.toNat) (m.kd != 5) (m.kd != 4) = false := by
          cases hb : stuckB ((T.rts.getD m.n.toNat rt0).tr.length - 1) (Y.tn m.n.toNat) (m.kd != 5) (m.kd != 4) with
          | false => rfl
          | true => rw [hb] at ha; cases ha
        have hm := h.tn m.n.toNat hn
        have hL := hT m.n.toNat hn
        have hmv : (Y.tn m.n.toNat).mv = false := by
          cases hb : (Y.tn m.n.toNat).mv with
          | false => rfl
          | true => unfold stuckB at hs; rw [hb] at hs; cases hs
        obtain ⟨i0, e1, e2⟩ := hm.mv hmv hi
        have ho := hm.ord hi
        have hg := goneOn_spec hi hL ho.1 ho.2.1 ho.2.2 k4 hs
        rw [e1, e2] at hg
        exact mid_gone hg i0
      · rw [if_neg (by omega)]
        split
        · refine ⟨h.A, h.L, fun n hn => midN_ext (h.tn n hn) rfl, fun p => ?_⟩
          show (if p = m.n.toNat then _ else Y.pn p : PN).sd = _ ∧ (if p = m.n.toNat then _ else Y.pn p : PN).lf = _
          split
          · rename_i e; subst e; exact h.pn _
          · exact h.pn p
        · exact h
  · exact h
theorem mid_moves {T : Tab} {Y0 : YS} (hT : ∀ n, n < T.rts.length → 0 < (T.rts.getD n rt0).tr.length) (h0 : YInv T Y0) : ∀ (l : List MV) (Y : YS), MidY T Y0 Y → MidY T Y0 (movesY T Y l)
  | [], _, h => h
  | _ :: l, _, h => mid_moves hT h0 l _ (mid_move hT h0 h)
/-- Two routes that are locked are apart. -/
theorem lock_apart {T : Tab} {S : AS} (hc : checkE T = 0) (h : Inv T S) {n k : Nat} (hn : n < T.rts.length) (hk : k < T.rts.length) (hne : n ≠ k) (ln : lockd S n) (lk : lockd S k) : mustB T.pts (T.rts.getD n rt0) (T.rts.getD k rt0) = false := by
  cases hb : mustB T.pts (T.rts.getD n rt0) (T.rts.getD k rt0) with
  | false => rfl
  | true =>
    obtain ⟨j, hj, e⟩ := decl_of hc hn hk hne hb
    exact absurd e (h.i1 n k hn hk ln lk j hj)
structure Apt (T : Tab) (n k : Nat) : Prop where
  sig : (T.rts.getD n rt0).sig ≠ (T.rts.getD k rt0).sig
  tr : ∀ x, x ∈ (T.rts.getD n rt0).tr → x ∉ (T.rts.getD k rt0).tr
theorem apt_of {T : Tab} {S : AS} (hc : checkE T = 0) (h : Inv T S) {n k : Nat} (hn : n < T.rts.length) (hk : k < T.rts.length) (hne : n ≠ k) (ln : lockd S n) (lk : lockd S k) : Apt T n k := by
  have hm := lock_apart hc h hn hk hne ln lk
  unfold mustB at hm
  rw [Bool.or_eq_false_iff, Bool.or_eq_false_iff] at hm
  refine ⟨fun e => ?_, fun x h1 h2 => ?_⟩
  · rw [e] at hm; simp at hm
  · have h3 := hm.2.1
    rw [List.any_eq_false] at h3
    have := h3 x h1
    rw [Bool.not_eq_true, List.any_eq_false] at this
    exact this x h2 (by simp)
/-- Who stands on a route is there: it is locked. -/
theorem mid_locked {T : Tab} {Y0 Y : YS} (h0 : YInv T Y0) (h : MidY T Y0 Y) {n : Nat} (hn : n < T.rts.length) (hi : (Y.tn n).is = true) : lockd Y0.A n := by
  unfold lockd
  cases hb : (Y0.tn n).is with
  | true => rw [(h0.tr n hn hb).2.2.2]; show (3 : Nat) ≠ 0; omega
  | false => rw [((h.tn n hn).came hb hi).2.2.1]; decide
/-- On a locked route's tracks only its own train may stand. -/
theorem mid_on {T : Tab} {Y0 Y : YS} (hc : checkE T = 0) (h0 : YInv T Y0) (h : MidY T Y0 Y) {n j : Nat} (hn : n < T.rts.length) (ln : lockd Y0.A n) (hj : j < (T.rts.getD n rt0).tr.length) :
    (onN T Y.tn ((T.rts.getD n rt0).tr.getD j 0) T.rts.length == 0) = !onB T Y.tn n ((T.rts.getD n rt0).tr.getD j 0) := by
  cases hb : onB T Y.tn n ((T.rts.getD n rt0).tr.getD j 0) with
  | true =>
    rw [Bool.not_true, beq_eq_false_iff_ne]
    intro e
    have := onN_zero.1 e n hn
    rw [hb] at this; cases this
  | false =>
    rw [Bool.not_false, beq_iff_eq]
    refine onN_zero.2 fun k hk => ?_
    by_cases e : k = n
    · subst e; exact hb
    · cases hx : onB T Y.tn k ((T.rts.getD n rt0).tr.getD j 0) with
      | false => rfl
      | true =>
        unfold onB at hx
        rw [Bool.and_eq_true] at hx
        have ap := apt_of hc h0.inv hn hk (Ne.symm e) ln (mid_locked h0 h hk hx.1)
        obtain ⟨i, _, _, hi, he⟩ := stands_iff.1 hx.2
        exact absurd (by rw [← he]; exact getD_mem hi) (ap.tr _ (getD_mem hj))
theorem tr_inj {T : Tab} (hc : checkE T = 0) {n i j : Nat} (hn : n < T.rts.length) (hi : i < (T.rts.getD n rt0).tr.length) (hj : j < (T.rts.getD n rt0).tr.length) (e : (T.rts.getD n rt0).tr.getD i 0 = (T.rts.getD n rt0).tr.getD j 0) : i = j := by
  have h := withinI_nodup (rtOk ((ckOk hc).rt n hn)).tw
  generalize (T.rts.getD n rt0).tr = l at *
  rw [List.getD_eq_getElem?_getD, List.getD_eq_getElem?_getD, List.getElem?_eq_getElem hi, List.getElem?_eq_getElem hj] at e
  have e' : l[i] = l[j] := e
  have hp := List.pairwise_iff_getElem.1 h
  by_cases h1 : i < j
  · exact absurd e' (hp i j hi hj h1)
  · by_cases h2 : j < i
    · exact absurd e'.symm (hp j i hj hi h2)
    · omega
theorem onB_sec {T : Tab} {tn : Nat → TN} (hc : checkE T = 0) {n j : Nat} (hn : n < T.rts.length) (hj : j < (T.rts.getD n rt0).tr.length) : onB T tn n ((T.rts.getD n rt0).tr.getD j 0) = ((tn n).is && (decide ((tn n).tl ≤ j) && decide (j ≤ (tn n).hd))) := by
  unfold onB
  congr 1
  rw [Bool.eq_iff_iff, stands_iff, Bool.and_eq_true, decide_eq_true_eq, decide_eq_true_eq]
  constructor
  · rintro ⟨i, h1, h2, h3, h4⟩
    have := tr_inj hc hn h3 hj h4
    subst this
    exact ⟨h1, h2⟩
  · rintro ⟨h1, h2⟩
    exact ⟨j, h1, h2, hj, rfl⟩
end Go.Proofs.Ytnjeiigdfdjccaa
/- The yard: a frame keeps the invariant. -/
namespace Go.Proofs.Ytnjeiigdfdjccaa
set_option linter.unusedVariables false
set_option linter.unusedSimpArgs false
theorem goK_R {T : Tab} {f : FD} {S : AS} {n : Nat} : ∀ k, (goK T f S k).R n = if n < k then goR f (T.rts.getD n rt0) n (S.R n) else S.R n
  | 0 => by rw [if_neg (by omega)]; rfl
  | k + 1 => by
    have ih := goK_R (T := T) (f := f) (S := S) (n := n) k
    show (if n = k then goR f (T.rts.getD k rt0) k ((goK T f S k).R k) else (goK T f S k).R n) = _
    by_cases e : n = k
    · subst e
      rw [if_pos rfl, if_pos (by omega), ih, if_neg (by omega)]
    · rw [if_neg e, ih]
      by_cases h : n < k
      · rw [if_pos h, if_pos (by omega)]
      · rw [if_neg h, if_neg (by omega)]
theorem askS_R {T : Tab} {f : FD} {S : AS} {m n : Nat} : (askS T f S m).R n = S.R n ∨ ((S.R n).ph = 0 ∧ ((askS T f S m).R n).ph = 1) := by
  unfold askS
  split
  · rename_i h
    by_cases e : n = m
    · subst e
      right
      refine ⟨?_, by show (if n = n then _ else _ : RS).ph = 1; rw [if_pos rfl]⟩
      unfold askOk at h
      simp only [Bool.and_eq_true, beq_iff_eq] at h
      exact h.1.2
    · left
      show (if n = m then _ else S.R n) = _
      rw [if_neg e]
  · exact .inl rfl
theorem askK_R {T : Tab} {f : FD} {S : AS} {n : Nat} : ∀ k, (askK T f S k).R n = S.R n ∨ ((S.R n).ph = 0 ∧ ((askK T f S k).R n).ph = 1)
  | 0 => .inl rfl
  | k + 1 => by
    have ih := askK_R (T := T) (f := f) (S := S) (n := n) k
    have h := askS_R (T := T) (f := f) (S := askK T f S k) (m := k) (n := n)
    show (askS T f (askK T f S k) k).R n = _ ∨ _ ∧ ((askS T f (askK T f S k) k).R n).ph = 1
    rcases ih with ih | ⟨i1, i2⟩
    · rcases h with h | ⟨h1, h2⟩
      · left; rw [h, ih]
      · right; exact ⟨by rw [← ih]; exact h1, h2⟩
    · rcases h with h | ⟨h1, h2⟩
      · right; exact ⟨i1, by rw [h]; exact i2⟩
      · rw [i2] at h1; cases h1
theorem step_R {T : Tab} {f : FD} {S : AS} {n : Nat} (hn : n < T.rts.length) : (stepS T f S).R n = goR f (T.rts.getD n rt0) n (S.R n) ∨ ((goR f (T.rts.getD n rt0) n (S.R n)).ph = 0 ∧ ((stepS T f S).R n).ph = 1) := by
  have h := askK_R (T := T) (f := f) (S := goK T f S T.rts.length) (n := n) T.rts.length
  rw [goK_R, if_pos hn] at h
  exact h
/-- A route that is set: its train comes. -/
theorem goR_came {f : FD} {t : Rt} {n : Nat} {r : RS} (h1 : r.ph = 1) (hc : bt f.cl (t.tr.getD 0 0) = false) : goR f t n r = trainR f t.tr ⟨3, 0, 0, 0⟩ := by
  have e : goR1 f t n r = ⟨3, 0, 0, 0⟩ := by
    unfold goR1
    rw [if_pos ⟨by omega, hc⟩]
  unfold goR
  rw [if_neg (by omega), e, if_pos rfl]
/-- No train comes. -/
theorem goR_none {f : FD} {t : Rt} {n : Nat} {r : RS} (h3 : r.ph ≠ 3) (hc : r.ph ≠ 0 → bt f.cl (t.tr.getD 0 0) = true) : (goR f t n r).ph ≠ 3 := by
  by_cases h0 : r.ph = 0
  · rw [goR_free h0]; omega
  · have e : (goR1 f t n r).ph ≠ 3 := by
      unfold goR1
      rw [hc h0]
      rw [if_neg (fun h => by cases h.2)]
      split
      · split
        · decide
        · decide
      · split
        · split
          · decide
          · exact h3
        · exact h3
    unfold goR
    rw [if_neg h0, if_neg e]
    exact e
theorem ones0 : ones 0 = 0 := rfl
/-- What is fed of a section. -/
theorem fed_sec {T : Tab} {Y0 Y : YS} {f : FD} (hc : checkE T = 0) (h0 : YInv T Y0) (h : MidY T Y0 Y) {n j : Nat} (hn : n < T.rts.length) (ln : lockd Y0.A n) (hj : j < (T.rts.getD n rt0).tr.length) (hf : f.cl = (feedsF T Y f).cl) :
    bt f.cl ((T.rts.getD n rt0).tr.getD j 0) = !((Y.tn n).is && (decide ((Y.tn n).tl ≤ j) && decide (j ≤ (Y.tn n).hd))) := by
  have hw := withinI_iff.1 (rtOk ((ckOk hc).rt n hn)).tw j hj
  rw [hf, fed_clear hw.1 hw.2.1, mid_on hc h0 h hn ln hj, onB_sec hc hn hj]
theorem go_train {T : Tab} {Y0 Y : YS} {f : FD} (hc : checkE T = 0) (h0 : YInv T Y0) (h : MidY T Y0 Y) {n : Nat} (hn : n < T.rts.length) (hf : f.cl = (feedsF T Y f).cl) (hi : (Y.tn n).is = true) :
    goR f (T.rts.getD n rt0) n (Y0.A.R n) = ⟨3, 0, ones ((Y.tn n).hd + 1), ones (Y.tn n).tl⟩ := by
  have ln := mid_locked h0 h hn hi
  have hm := h.tn n hn
  obtain ⟨o1, o2, o3⟩ := hm.ord hi
  have sec : ∀ j, j < (T.rts.getD n rt0).tr.length → bt f.cl ((T.rts.getD n rt0).tr.getD j 0) = !(decide ((Y.tn n).tl ≤ j) && decide (j ≤ (Y.tn n).hd)) := fun j hj => by
    rw [fed_sec hc h0 h hn ln hj hf, hi, Bool.true_and]
  have secf : ∀ j, j < (T.rts.getD n rt0).tr.length → (bt f.cl ((T.rts.getD n rt0).tr.getD j 0) = false ↔ (Y.tn n).tl ≤ j ∧ j ≤ (Y.tn n).hd) := fun j hj => by
    rw [sec j hj, Bool.not_eq_false', Bool.and_eq_true, decide_eq_true_eq, decide_eq_true_eq]
  have sect : ∀ j, j < (Y.tn n).tl → bt f.cl ((T.rts.getD n rt0).tr.getD j 0) = true := fun j hj => by
    rw [sec j (by omega), decide_eq_false (by omega)]; rfl
  have secl : bt f.cl ((T.rts.getD n rt0).tr.getD (Y.tn n).tl 0) = false := (secf _ (by omega)).2 ⟨Nat.le_refl _, o1⟩
  cases hb : (Y0.tn n).is with
  | true =>
    obtain ⟨t1, t2, t3, t4⟩ := h0.tr n hn hb
    obtain ⟨a1, a2, a3⟩ := hm.on hb hi
    rw [t4, goR_in rfl]
    refine train_ones o3 (fun j hj => ?_) (by omega) o1 a1 sect secl
    rw [secf j hj]
    omega
  | false =>
    obtain ⟨c1, c2, c3, c4⟩ := hm.came hb hi
    rw [goR_came c3 (by rw [← c1]; exact secl)]
    have e : (⟨3, 0, 0, 0⟩ : RS) = ⟨3, 0, ones 0, ones 0⟩ := rfl
    rw [e]
    refine train_ones o3 (fun j hj => ?_) (by omega) o1 (by omega) sect secl
    rw [secf j hj]
    omega
theorem go_gone {T : Tab} {Y0 Y : YS} {f : FD} (hc : checkE T = 0) (h0 : YInv T Y0) (h : MidY T Y0 Y) {n : Nat} (hn : n < T.rts.length) (hL : 0 < (T.rts.getD n rt0).tr.length) (hf : f.cl = (feedsF T Y f).cl) (hi : (Y.tn n).is = false) :
    (goR f (T.rts.getD n rt0) n (Y0.A.R n)).ph ≠ 3 := by
  have hm := h.tn n hn
  cases hb : (Y0.tn n).is with
  | true =>
    obtain ⟨t1, t2, t3, t4⟩ := h0.tr n hn hb
    have g := hm.gone hb hi
    have ln : lockd Y0.A n := by unfold lockd; rw [t4]; show (3 : Nat) ≠ 0; omega
    rw [t4, goR_in rfl, g, train_gone hL (by omega) (fun j hj => by rw [fed_sec hc h0 h hn ln hj hf, hi]; rfl)]
    decide
  | false =>
    refine goR_none (h0.no n hn hb) fun hp => ?_
    rw [fed_sec hc h0 h hn hp hL hf, hi]; rfl
end Go.Proofs.Ytnjeiigdfdjccaa
/- The yard: the invariant, and what follows for each frame. -/
namespace Go.Proofs.Ytnjeiigdfdjccaa
set_option linter.unusedVariables false
set_option linter.unusedSimpArgs false
theorem order_zero (T : Tab) (g : FD) : orderS T g as0 = od0 := by
  have h1 : ∀ k, prN T g as0.R k = 0 := fun k => by
    induction k with
    | zero => rfl
    | succ k ih => show (if procB g _ rs0 then _ else prN T g as0.R k) = 0; rw [ih]; rfl
  have h2 : ∀ k, noN as0.C k = 0 := fun k => by
    induction k with
    | zero => rfl
    | succ k ih => show noN as0.C k ||| _ = 0; rw [ih]; simp [as0]
  have h3 : ∀ k, reN as0.C k = 0 := fun k => by
    induction k with
    | zero => rfl
    | succ k ih => show reN as0.C k ||| _ = 0; rw [ih]; simp [as0]
  have h4 : ∀ k, loN as0.R k = 0 := fun k => by
    induction k with
    | zero => rfl
    | succ k ih => show (if (as0.R k).ph = 0 then loN as0.R k else _) = 0; rw [ih]; rfl
  unfold orderS
  rw [h1, h2, h3, h4]; rfl
theorem as0_fine : as0.Ok := ⟨fun _ => ⟨by show 0 < _; omega, by show 0 < _; omega, by show 0 < _; omega, by show 0 < _; omega⟩, fun _ => by show 0 < _; omega⟩
theorem yinv0 (T : Tab) : YInv T ys0 :=
  ⟨as0_fine, inv0 T, fun _ _ h => absurd h (by show ¬ false = true; decide), fun _ _ _ => (by show (0 : Nat) ≠ 3; omega), fun _ _ h => absurd h (by show ¬ false = true; decide), fun _ _ h => absurd h (by show ¬ (0 : Nat) = 1; omega), fun _ _ h => absurd rfl h, fun _ => .inl rfl, fd00, (order_zero T fd00).symm⟩
theorem toN_eq {T : Tab} {f : FD} {S : AS} {p : Nat} {x : PN} (hS : ∀ p, S.C p < 3) (hp : p < T.pts.length) (h0 : S.C p ≠ 0) : toN (orderS T f S) p x = S.C p := by
  unfold toN orderS
  dsimp only
  rw [noN_bit, reN_bit _ hS, decide_eq_true hp, Bool.true_and, Bool.true_and]
  have := hS p
  have h : S.C p = 1 ∨ S.C p = 2 := by omega
  rcases h with h | h <;> rw [h]
  · rw [if_pos (by decide)]
  · rw [if_neg (by decide), if_pos (by decide)]
theorem needP_ne (p : Int × Bool) : needP p ≠ 0 ∧ needP p < 3 := by unfold needP; split <;> omega
theorem needP_t (p : Int × Bool) : needP p = if p.2 then 2 else 1 := rfl
/-- The points of a route, by number. -/
theorem pts_num {T : Tab} (hT : TOk T) {n : Nat} (hn : n < T.rts.length) {p : Int × Bool} (hp : p ∈ (T.rts.getD n rt0).pts) : ∃ i, i < (T.rts.getD n rt0).pts.length ∧ p = (T.rts.getD n rt0).pts.getD i (0, false) ∧ 0 ≤ p.1 ∧ p.1.toNat < T.pts.length := by
  obtain ⟨i, hi, e⟩ := List.getElem_of_mem hp
  have e' : p = (T.rts.getD n rt0).pts.getD i (0, false) := by
    rw [List.getD_eq_getElem?_getD, List.getElem?_eq_getElem hi]; exact e.symm
  have := hT.pp n hn i hi
  rw [← e'] at this
  exact ⟨i, hi, e', this.1, by omega⟩
theorem cmd_of {T : Tab} {S : AS} (hT : TOk T) (h : Inv T S) {n : Nat} (hn : n < T.rts.length) (ln : lockd S n) {p : Int × Bool} (hp : p ∈ (T.rts.getD n rt0).pts) : S.C p.1.toNat = needP p ∧ p.1.toNat < T.pts.length := by
  obtain ⟨i, hi, e, h0, h1⟩ := pts_num hT hn hp
  have := h.i2 n hn ln i hi
  rw [← e] at this
  exact ⟨this, h1⟩
theorem turn_keep {T : Tab} {f : FD} {S : AS} {d : Nat} {p : Int × Bool} {x : PN} (hS : ∀ p, S.C p < 3) (hp : p.1.toNat < T.pts.length) (hc : S.C p.1.toNat = needP p) (hx : x.sd = needP p ∧ x.lf = 0) : (turnP (orderS T f S) d p.1.toNat x).sd = needP p ∧ (turnP (orderS T f S) d p.1.toNat x).lf = 0 := by
  have e : toN (orderS T f S) p.1.toNat x = needP p := by rw [toN_eq hS hp (by rw [hc]; exact (needP_ne p).1), hc]
  unfold turnP
  rw [e, if_pos hx.1.symm]
  exact hx
theorem turn_sd {o : OD} {d n : Nat} {p : PN} : (turnP o d n p).sd = toN o n p := by
  unfold turnP
  split
  · rename_i h; exact h.symm
  · rfl
/-- A signal at proceed is the route's that is set. -/
theorem proceed_own {T : Tab} {f : FD} {S : AS} (hc : checkE T = 0) (hT : TOk T) (h : Inv T S) {n : Nat} (hn : n < T.rts.length) (h1 : (S.R n).ph = 1) (hb : (orderS T f S).pr.testBit (T.rts.getD n rt0).sig.toNat = true) : procB f (T.rts.getD n rt0) (S.R n) = true := by
  obtain ⟨k, hk, hp, hs⟩ := prN_bit _ hb
  by_cases e : k = n
  · subst e; exact hp
  · have l1 : lockd S n := by unfold lockd; omega
    have l2 : lockd S k := by
      unfold procB at hp
      simp only [Bool.and_eq_true, beq_iff_eq] at hp
      unfold lockd; omega
    have := (apt_of hc h hk hn e l2 l1).sig
    have a := (hT.sig k hk).1; have b := (hT.sig n hn).1
    exact absurd (show (T.rts.getD k rt0).sig = (T.rts.getD n rt0).sig by omega) this
theorem mid_lift {T : Tab} {Y : YS} (hT : TOk T) (h : YInv T Y) (l : List MV) : MidY T Y (movesY T (freshY Y) l) := mid_moves (fun n hn => (hT.tl n hn).1) h l _ (mid_fresh h)
theorem feed_cl (T : Tab) (Y : YS) (l : List MV) : (feedY T Y l).cl = (feedsF T (movesY T (freshY Y) l) (feedY T Y l)).cl := rfl
/-- The points that a train, or a signal at proceed, holds. -/
theorem held {T : Tab} {Y0 Y : YS} (h0 : YInv T Y0) (h : MidY T Y0 Y) {n : Nat} (hn : n < T.rts.length) (hi : (Y.tn n).is = true) : ∀ p ∈ (T.rts.getD n rt0).pts, (Y0.pn p.1.toNat).sd = needP p ∧ (Y0.pn p.1.toNat).lf = 0 := by
  cases hb : (Y0.tn n).is with
  | true => exact h0.st n hn hb
  | false => obtain ⟨_, _, c3, c4⟩ := (h.tn n hn).came hb hi; exact (h0.go n hn c3 c4).1
theorem frame_inv {T : Tab} {Y : YS} {d : Nat} (hc : checkE T = 0) (hT : TOk T) (h : YInv T Y) (l : List MV) : YInv T (frameY T d Y l) := by
  have M := mid_lift hT h l
  have hcl := feed_cl T Y l
  have eA : (midY T Y l).A = Y.A := M.A
  have hS := stepS_ok hT (feedY T Y l) h.ok
  have hI : Inv T (stepS T (feedY T Y l) Y.A) := step_inv hc h.inv
  have HT : ∀ n, n < T.rts.length → ((movesY T (freshY Y) l).tn n).is = true → (stepS T (feedY T Y l) Y.A).R n = ⟨3, 0, ones (((movesY T (freshY Y) l).tn n).hd + 1), ones ((movesY T (freshY Y) l).tn n).tl⟩ := fun n hn hi => by
    have g := go_train hc h M hn hcl hi
    rcases step_R (T := T) (f := feedY T Y l) (S := Y.A) hn with e | ⟨e, _⟩
    · rw [e, g]
    · rw [g] at e; cases e
  have HN : ∀ n, n < T.rts.length → ((movesY T (freshY Y) l).tn n).is = false → ((stepS T (feedY T Y l) Y.A).R n).ph ≠ 3 := fun n hn hi => by
    have g := go_gone hc h M hn (hT.tl n hn).1 hcl hi
    rcases step_R (T := T) (f := feedY T Y l) (S := Y.A) hn with e | ⟨_, e⟩
    · rw [e]; exact g
    · rw [e]; decide
  have LK : ∀ n, n < T.rts.length → ((movesY T (freshY Y) l).tn n).is = true → lockd (stepS T (feedY T Y l) Y.A) n := fun n hn hi => by
    unfold lockd; rw [HT n hn hi]; show (3 : Nat) ≠ 0; omega
  have PN' : ∀ p, ((midY T Y l).pn p).sd = (Y.pn p).sd ∧ ((midY T Y l).pn p).lf = (Y.pn p).lf - 1 := fun p => by
    have := M.pn p
    exact ⟨this.1, by show ((movesY T (freshY Y) l).pn p).lf - 1 = _; rw [this.2]⟩
  have hF : frameY T d Y l = ⟨stepS T (feedY T Y l) Y.A, orderS T (feedY T Y l) (stepS T (feedY T Y l) Y.A), (movesY T (freshY Y) l).tn, fun n => turnP (orderS T (feedY T Y l) (stepS T (feedY T Y l) Y.A)) d n ((midY T Y l).pn n)⟩ := by
    unfold frameY turnY
    rw [eA]; rfl
  rw [hF]
  refine ⟨hS, hI, fun n hn hi => ?_, fun n hn hi => HN n hn hi, fun n hn hi p hp => ?_, fun n hn h1 hb => ?_, fun p hp h0 => ?_, fun p => ?_, _, rfl⟩
  · obtain ⟨a, b, c⟩ := (M.tn n hn).ord hi
    exact ⟨a, b, c, HT n hn hi⟩
  · have hh := held h M hn hi p hp
    obtain ⟨c1, c2⟩ := cmd_of hT hI hn (LK n hn hi) hp
    exact turn_keep hS.C c2 c1 ⟨by rw [(PN' _).1]; exact hh.1, by rw [(PN' _).2, hh.2]⟩
  · have hp := proceed_own hc hT hI hn h1 hb
    unfold procB at hp
    rw [Bool.and_eq_true, Bool.and_eq_true, List.all_eq_true, List.all_eq_true] at hp
    obtain ⟨⟨_, htr⟩, hpt⟩ := hp
    refine ⟨fun p hp => ?_, fun x hx => ?_⟩
    · have hs := hpt p hp
      obtain ⟨c1, c2⟩ := cmd_of hT hI hn (by unfold lockd; rw [h1]; decide) hp
      refine turn_keep hS.C c2 c1 ?_
      unfold seenB at hs
      have e1 : bt (feedY T Y l).no p.1 = (stillB ((midY T Y l).pn p.1.toNat) && ((midY T Y l).pn p.1.toNat).sd == 1) := by
        show (fnN (midY T Y l).pn T.pts.length).testBit _ = _
        rw [fnN_bit, decide_eq_true c2, Bool.true_and]
      have e2 : bt (feedY T Y l).re p.1 = (stillB ((midY T Y l).pn p.1.toNat) && ((midY T Y l).pn p.1.toNat).sd != 1) := by
        show (frN (midY T Y l).pn T.pts.length).testBit _ = _
        rw [frN_bit, decide_eq_true c2, Bool.true_and]
      rw [e1, e2] at hs
      have t12 : ((midY T Y l).pn p.1.toNat).sd = 1 ∨ ((midY T Y l).pn p.1.toNat).sd = 2 := by rw [(PN' _).1]; exact h.t12 _
      generalize (midY T Y l).pn p.1.toNat = q at hs t12 ⊢
      obtain ⟨sd, lf, br⟩ := q
      obtain ⟨p1, p2⟩ := p
      unfold stillB at hs
      dsimp only at hs t12 ⊢
      rw [needP_t]
      cases br
      · by_cases hl : lf = 0
        · rcases t12 with rfl | rfl <;> cases p2 <;> simp [hl] at hs ⊢
        · cases p2 <;> simp [hl] at hs
      · cases p2 <;> simp at hs
    · obtain ⟨j, hj, e⟩ := mem_getD hx
      have hw := withinI_iff.1 (rtOk ((ckOk hc).rt n hn)).tw j hj
      have := htr x hx
      rw [hcl, fed_clear (by rw [← e]; exact hw.1) (by rw [← e]; exact hw.2.1)] at this
      exact beq_iff_eq.1 this
  · show (turnP _ _ _ _).sd = _
    rw [turn_sd, toN_eq hS.C hp h0]
  · show (turnP _ _ _ _).sd = 1 ∨ (turnP _ _ _ _).sd = 2
    rw [turn_sd]
    unfold toN
    split
    · exact .inl rfl
    · split
      · exact .inr rfl
      · rw [(PN' p).1]; exact h.t12 p
theorem frames_inv {T : Tab} {d : Nat} (hc : checkE T = 0) (hT : TOk T) : ∀ (l : List (List MV)) (Y : YS), YInv T Y → YInv T (framesY T d Y l)
  | [], _, h => h
  | _ :: l, _, h => frames_inv hc hT l _ (frame_inv hc hT h _)
end Go.Proofs.Ytnjeiigdfdjccaa
/- The yard: what the laws ask. -/
namespace Go.Proofs.Ytnjeiigdfdjccaa
set_option linter.unusedVariables false
set_option linter.unusedSimpArgs false
theorem train_locked {T : Tab} {Y : YS} (h : YInv T Y) {n : Nat} (hn : n < T.rts.length) (hi : (Y.tn n).is = true) : lockd Y.A n := by
  unfold lockd; rw [(h.tr n hn hi).2.2.2]; show (3 : Nat) ≠ 0; omega
/-- No two trains meet. -/
theorem met_none {T : Tab} {Y : YS} (hc : checkE T = 0) (h : YInv T Y) (x : Int) : onN T Y.tn x T.rts.length ≤ 1 :=
  onN_le fun n m hn hm hne h1 => by
    cases h2 : onB T Y.tn m x with
    | false => rfl
    | true =>
      unfold onB at h1 h2
      rw [Bool.and_eq_true] at h1 h2
      obtain ⟨i, _, _, hi, e1⟩ := stands_iff.1 h1.2
      obtain ⟨j, _, _, hj, e2⟩ := stands_iff.1 h2.2
      have ap := apt_of hc h.inv hn hm hne (train_locked h hn h1.1) (train_locked h hm h2.1)
      exact absurd (by rw [← e2]; exact getD_mem hj) (ap.tr x (by rw [← e1]; exact getD_mem hi))
/-- Each point of a train's route is as it needs it. -/
theorem off_none {T : Tab} {Y : YS} (h : YInv T Y) {n : Nat} (hn : n < T.rts.length) (hi : (Y.tn n).is = true) {p : Int × Bool} (hp : p ∈ (T.rts.getD n rt0).pts) : pointN (Y.pn p.1.toNat) = needP p := by
  obtain ⟨a, b⟩ := h.st n hn hi p hp
  unfold pointN
  rw [b, if_neg (by omega), a]
/-- A point under a train is one of its route's. -/
theorem under_own {T : Tab} {Y : YS} (hc : checkE T = 0) {i : Nat} (hi : i < T.pts.length) (h0 : onN T Y.tn (T.pts.getD i 0) T.rts.length ≠ 0) : ∃ n p, n < T.rts.length ∧ (Y.tn n).is = true ∧ p ∈ (T.rts.getD n rt0).pts ∧ p.1.toNat = i := by
  by_cases hx : ∀ n, n < T.rts.length → onB T Y.tn n (T.pts.getD i 0) = false
  · exact absurd (onN_zero.2 hx) h0
  · simp only [Classical.not_forall] at hx
    obtain ⟨n, hn, hb⟩ := hx
    rw [Bool.not_eq_false] at hb
    unfold onB at hb
    rw [Bool.and_eq_true] at hb
    obtain ⟨j, _, _, hj, e⟩ := stands_iff.1 hb.2
    have ip := inPtsB_iff.1 (rtOk ((ckOk hc).rt n hn)).ip i hi
    rw [hasI_mem.2 (show T.pts.getD i 0 ∈ (T.rts.getD n rt0).tr by rw [← e]; exact getD_mem hj), Bool.not_true, Bool.false_or, hasI_mem] at ip
    unfold ownP at ip
    rw [List.mem_map] at ip
    obtain ⟨p, hp, e2⟩ := ip
    exact ⟨n, p, hn, hb.1, hp, by omega⟩
/-- What stands still under a train. -/
theorem still_none {T : Tab} {Y : YS} {d : Nat} (hc : checkE T = 0) (hT : TOk T) (h : YInv T Y) (l : List MV) {i : Nat} (hi : i < T.pts.length) (h0 : onN T (frameY T d Y l).tn (T.pts.getD i 0) T.rts.length ≠ 0) :
    pointN ((frameY T d Y l).pn i) ≠ 0 ∧ pointN ((frameY T d Y l).pn i) = pointN (Y.pn i) := by
  have h' := frame_inv (d := d) hc hT h l
  obtain ⟨n, p, hn, hs, hp, rfl⟩ := under_own hc hi h0
  have e1 := off_none h' hn hs hp
  have hh := held h (mid_lift hT h l) hn hs p hp
  have e2 : pointN (Y.pn p.1.toNat) = needP p := by unfold pointN; rw [hh.2, if_neg (by omega), hh.1]
  rw [e1, e2]
  exact ⟨(needP_ne p).1, rfl⟩
/-- Where a train stands behind a frame. -/
theorem sig_none {T : Tab} {Y : YS} {d : Nat} (hc : checkE T = 0) (hT : TOk T) (h : YInv T Y) (l : List MV) {n : Nat} (hn : n < T.rts.length) (hi : ((frameY T d Y l).tn n).is = true) :
    ((frameY T d Y l).A.R n).ph = 3 ∧ (frameY T d Y l).L.lo.testBit n = true ∧ ((Y.tn n).is = false → (Y.A.R n).ph = 1 ∧ Y.L.pr.testBit (T.rts.getD n rt0).sig.toNat = true ∧ ∀ x ∈ (T.rts.getD n rt0).tr, onN T Y.tn x T.rts.length = 0) := by
  have h' := frame_inv (d := d) hc hT h l
  have e := (h'.tr n hn hi).2.2.2
  refine ⟨by rw [e], ?_, fun hb => ?_⟩
  · obtain ⟨f, hf⟩ := h'.ord
    rw [hf]
    show (loN _ T.rts.length).testBit n = true
    rw [loN_bit, decide_eq_true hn, e]; rfl
  · obtain ⟨_, _, c3, c4⟩ := ((mid_lift hT h l).tn n hn).came hb hi
    exact ⟨c3, c4, (h.go n hn c3 c4).2⟩
/-- All trains go on. -/
def onKind (x : TN) : Nat := if x.tl < x.hd then 5 else 6
def onMoves (Y : YS) : Nat → List MV
  | 0 => []
  | k + 1 => if (Y.tn k).is then onMoves Y k ++ [⟨onKind (Y.tn k), k⟩] else onMoves Y k
theorem movesY_app {T : Tab} : ∀ (a b : List MV) (Y : YS), movesY T Y (a ++ b) = movesY T (movesY T Y a) b
  | [], _, _ => rfl
  | _ :: a, b, _ => movesY_app a b _
theorem movesE_app {T : Tab} : ∀ (a b : List MV) (Y : YS), movesE T Y (a ++ b) = movesE T Y a ++ movesE T (movesY T Y a) b
  | [], _, _ => rfl
  | m :: a, b, Y => by
    show ansN T Y m :: movesE T _ (a ++ b) = _
    rw [movesE_app a b]; rfl
def nextT (L : Nat) (x : TN) : TN := if x.tl < x.hd then ⟨x.is, true, x.tl + 1, x.hd⟩ else if x.hd = L - 1 then tn0 else ⟨x.is, true, x.tl + 1, x.hd + 1⟩
theorem onMove {T : Tab} {Y : YS} {n : Nat} {x : TN} (hn : n < T.rts.length) (he : Y.tn n = { x with mv := false }) (hi : x.is = true) (h1 : x.tl ≤ x.hd) (h3 : x.hd < (T.rts.getD n rt0).tr.length) :
    ansN T Y ⟨onKind x, n⟩ = 0 ∧ moveY T Y ⟨onKind x, n⟩ = Y.setT n (nextT (T.rts.getD n rt0).tr.length x) := by
  have hk : onKind x = 5 ∨ onKind x = 6 := by unfold onKind; split <;> omega
  have hs : stuckB ((T.rts.getD n rt0).tr.length - 1) (Y.tn n) (onKind x != 5) (onKind x != 4) = false ∧ goneOn ((T.rts.getD n rt0).tr.length - 1) (Y.tn n) (onKind x != 5) (onKind x != 4) = nextT (T.rts.getD n rt0).tr.length x := by
    rw [he]
    clear he
    generalize (T.rts.getD n rt0).tr.length = L at *
    unfold stuckB goneOn goneB nextT
    obtain ⟨is, mv, tl, hd⟩ := x
    dsimp only at *
    subst hi
    unfold onKind
    dsimp only
    by_cases e : tl < hd
    · rw [if_pos e, if_pos e]
      have e1 : (tl == hd) = false := by simp; omega
      simp [e1]
    · have e1 : tl = hd := by omega
      subst e1
      rw [if_neg e, if_neg e]
      by_cases l : tl = L - 1
      · rw [if_pos l]; simp [l]
      · rw [if_neg l]; simp [l]
  have hisn : (Y.tn n).is = true := by rw [he]; exact hi
  have ha : ansN T Y ⟨onKind x, n⟩ = 0 := by
    unfold ansN
    dsimp only
    rw [if_neg (by omega)]
    rw [if_neg (by unfold manyN; rw [if_neg (by omega)]; omega), if_neg (fun h => by rw [show ((n : Int)).toNat = n from rfl, hisn] at h; cases h.2.2), if_neg (by omega), if_pos (by omega), show ((n : Int)).toNat = n from rfl, hs.1]
    rfl
  refine ⟨ha, ?_⟩
  unfold moveY
  rw [if_pos ha]
  unfold doY
  dsimp only
  rw [if_neg (by omega), if_pos (by omega), show ((n : Int)).toNat = n from rfl, hs.2]
structure OnK (T : Tab) (Y Z : YS) (k : Nat) (e : List Nat) : Prop where
  tn : ∀ n, Z.tn n = if n < k ∧ (Y.tn n).is = true then nextT (T.rts.getD n rt0).tr.length (Y.tn n) else { Y.tn n with mv := false }
  er : ∀ x ∈ e, x = 0
theorem onMoves_k {T : Tab} {Y : YS} (h : YInv T Y) : ∀ k, k ≤ T.rts.length → OnK T Y (movesY T (freshY Y) (onMoves Y k)) k (movesE T (freshY Y) (onMoves Y k))
  | 0, _ => ⟨fun n => by rw [if_neg (by omega)]; rfl, fun x hx => by cases hx⟩
  | k + 1, hk => by
    have ih := onMoves_k h k (by omega)
    show OnK T Y (movesY T (freshY Y) (if _ then _ else _)) (k + 1) (movesE T (freshY Y) (if _ then _ else _))
    cases hb : (Y.tn k).is with
    | false =>
      rw [if_neg (by decide)]
      refine ⟨fun n => ?_, ih.er⟩
      rw [ih.tn n]
      by_cases e : n = k
      · subst e; rw [if_neg (by omega), if_neg (by rw [hb]; simp)]
      · by_cases h1 : n < k ∧ (Y.tn n).is = true
        · rw [if_pos h1, if_pos ⟨by omega, h1.2⟩]
        · rw [if_neg h1, if_neg (fun h2 => h1 ⟨by omega, h2.2⟩)]
    | true =>
      rw [if_pos rfl, movesY_app, movesE_app]
      have ht := h.tr k (by omega) hb
      obtain ⟨m1, m2⟩ := onMove (T := T) (Y := movesY T (freshY Y) (onMoves Y k)) (n := k) (x := Y.tn k) (by omega) (by rw [ih.tn k, if_neg (by omega)]) hb ht.1 ht.2.2.1
      refine ⟨fun n => ?_, fun x hx => ?_⟩
      · show (moveY T _ _).tn n = _
        rw [m2]
        by_cases e : n = k
        · subst e; rw [setT_at, if_pos ⟨by omega, hb⟩]
        · rw [setT_ne e, ih.tn n]
          by_cases h1 : n < k ∧ (Y.tn n).is = true
          · rw [if_pos h1, if_pos ⟨by omega, h1.2⟩]
          · rw [if_neg h1, if_neg (fun h2 => h1 ⟨by omega, h2.2⟩)]
      · rcases List.mem_append.1 hx with hx | hx
        · exact ih.er x hx
        · have : x ∈ [ansN T (movesY T (freshY Y) (onMoves Y k)) ⟨onKind (Y.tn k), k⟩] := hx
          rw [List.mem_singleton] at this
          rw [this, m1]
def onFrames (T : Tab) (d : Nat) (Y : YS) : Nat → YS
  | 0 => Y
  | k + 1 => frameY T d (onFrames T d Y k) (onMoves (onFrames T d Y k) T.rts.length)
theorem onFrames_inv {T : Tab} {Y : YS} {d : Nat} (hc : checkE T = 0) (hT : TOk T) (h : YInv T Y) : ∀ k, YInv T (onFrames T d Y k)
  | 0 => h
  | k + 1 => frame_inv hc hT (onFrames_inv hc hT h k) _
theorem onFrames_errs {T : Tab} {Y : YS} (h : YInv T Y) : ∀ x ∈ errsY T Y (onMoves Y T.rts.length), x = 0 := (onMoves_k h _ (Nat.le_refl _)).er
theorem onFrames_tl {T : Tab} {Y : YS} {d : Nat} (hc : checkE T = 0) (hT : TOk T) (h : YInv T Y) {n : Nat} (hn : n < T.rts.length) : ∀ k, ((onFrames T d Y k).tn n).is = true → k ≤ ((onFrames T d Y k).tn n).tl
  | 0, _ => Nat.zero_le _
  | k + 1, hi => by
    have ih := onFrames_tl (d := d) hc hT h hn k
    have hk := onFrames_inv (d := d) hc hT h k
    have e : (onFrames T d Y (k + 1)).tn n = (movesY T (freshY (onFrames T d Y k)) (onMoves (onFrames T d Y k) T.rts.length)).tn n := rfl
    rw [e, (onMoves_k hk _ (Nat.le_refl _)).tn n] at hi ⊢
    cases hb : ((onFrames T d Y k).tn n).is with
    | false => rw [if_neg (by rw [hb]; simp)] at hi; exact absurd (hb.symm.trans hi) (by decide)
    | true =>
      have := ih hb
      rw [if_pos ⟨hn, hb⟩] at hi
      rw [if_pos ⟨hn, rfl⟩]
      unfold nextT at hi ⊢
      split
      · show k + 1 ≤ _ + 1; omega
      · rename_i h1
        rw [if_neg h1] at hi
        split
        · rename_i h2; rw [if_pos h2] at hi; cases hi
        · show k + 1 ≤ _ + 1; omega
/-- All are gone. -/
theorem onFrames_gone {T : Tab} {Y : YS} {d k : Nat} (hc : checkE T = 0) (hT : TOk T) (h : YInv T Y) {n : Nat} (hn : n < T.rts.length) (hk : (T.rts.getD n rt0).tr.length ≤ k) : ((onFrames T d Y k).tn n).is = false ∧ ((onFrames T d Y k).A.R n).ph ≠ 3 := by
  have hi := onFrames_inv (d := d) hc hT h k
  have : ((onFrames T d Y k).tn n).is = false := by
    cases hb : ((onFrames T d Y k).tn n).is with
    | false => rfl
    | true =>
      have h1 := onFrames_tl (d := d) hc hT h hn k hb
      have h2 := hi.tr n hn hb
      omega
  exact ⟨this, hi.no n hn this⟩
end Go.Proofs.Ytnjeiigdfdjccaa
