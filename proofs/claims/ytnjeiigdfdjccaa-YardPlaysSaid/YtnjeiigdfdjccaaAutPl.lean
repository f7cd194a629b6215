/- The automaton in plain words: routes, frames, orders. -/
import Derived.Test.YtnjeiigdfdjccaaTab
namespace Go.Proofs.Ytnjeiigdfdjccaa
set_option linter.unusedVariables false
/-- A route as it is: 0 free, 1 set, 2 held, 3 in; its time; sections used, released. -/
structure RS where
  (ph tm us rl : Nat)
def rs0 : RS := ⟨0, 0, 0, 0⟩
instance : Inhabited RS := ⟨rs0⟩
/-- What is fed. -/
structure FD where
  (cl no re ak ca rq : Nat)
def bt (w : Nat) (n : Int) : Bool := w.testBit n.toNat
def usedN (f : FD) (l : List Int) (u : Nat) : Nat → Nat
  | 0 => u
  | k + 1 => if bt f.cl (l.getD k 0) then usedN f l u k else usedN f l u k ||| 2 ^ k
def relN (f : FD) (l : List Int) (us x : Nat) : Nat → Nat
  | 0 => x
  | k + 1 => if (k == 0 || (relN f l us x k).testBit (k - 1)) && us.testBit k && bt f.cl (l.getD k 0) && (k + 1 == l.length || us.testBit (k + 1)) then relN f l us x k ||| 2 ^ k else relN f l us x k
def trainR (f : FD) (l : List Int) (r : RS) : RS :=
  if relN f l (usedN f l r.us l.length) r.rl l.length = 2 ^ l.length - 1 then rs0 else { r with us := usedN f l r.us l.length, rl := relN f l (usedN f l r.us l.length) r.rl l.length }
def upTime (m : Nat) : Nat := if m < 65535 then m + 1 else m
def goR1 (f : FD) (t : Rt) (n : Nat) (r : RS) : RS :=
  if r.ph ≠ 3 ∧ bt f.cl (t.tr.getD 0 0) = false then ⟨3, 0, 0, 0⟩
  else if r.ph = 1 ∧ f.ca.testBit n = true then (if 0 ≤ t.app ∧ bt f.cl t.app = false then ⟨2, 0, 0, 0⟩ else rs0)
  else if r.ph = 2 then (if t.hold ≤ upTime r.tm then rs0 else { r with tm := upTime r.tm })
  else r
def goR (f : FD) (t : Rt) (n : Nat) (r : RS) : RS :=
  if r.ph = 0 then r else if (goR1 f t n r).ph = 3 then trainR f t.tr (goR1 f t n r) else goR1 f t n r
structure AS where
  R : Nat → RS
  C : Nat → Nat
def as0 : AS := ⟨fun _ => rs0, fun _ => 0⟩
def needP (p : Int × Bool) : Nat := if p.2 then 2 else 1
def setC (C : Nat → Nat) (l : List (Int × Bool)) : Nat → Nat → Nat
  | 0 => C
  | k + 1 => fun j => if j = (l.getD k (0, false)).1.toNat then needP (l.getD k (0, false)) else setC C l k j
def askOk (T : Tab) (f : FD) (S : AS) (n : Nat) : Bool :=
  ((f.ak.testBit n || f.rq == n + 1) && (S.R n).ph == 0) && (((T.rts.getD n rt0).con.all fun k => (S.R k.toNat).ph == 0) && (((T.rts.getD n rt0).tr.all fun x => bt f.cl x) && ((T.rts.getD n rt0).pts.all fun p => S.C p.1.toNat == needP p || bt f.cl (T.pts.getD p.1.toNat 0))))
def goS (T : Tab) (f : FD) (S : AS) (n : Nat) : AS := ⟨fun j => if j = n then goR f (T.rts.getD n rt0) n (S.R n) else S.R j, S.C⟩
def askS (T : Tab) (f : FD) (S : AS) (n : Nat) : AS :=
  if askOk T f S n then ⟨fun j => if j = n then { S.R n with ph := 1 } else S.R j, setC S.C (T.rts.getD n rt0).pts (T.rts.getD n rt0).pts.length⟩ else S
def goK (T : Tab) (f : FD) (S : AS) : Nat → AS
  | 0 => S
  | k + 1 => goS T f (goK T f S k) k
def askK (T : Tab) (f : FD) (S : AS) : Nat → AS
  | 0 => S
  | k + 1 => askS T f (askK T f S k) k
def stepS (T : Tab) (f : FD) (S : AS) : AS := askK T f (goK T f S T.rts.length) T.rts.length
/-- A point is detected as it is needed. -/
def seenB (f : FD) (p : Int × Bool) : Bool := (bt f.no p.1 == !p.2) && (bt f.re p.1 == p.2)
def procB (f : FD) (t : Rt) (r : RS) : Bool := r.ph == 1 && (t.tr.all fun x => bt f.cl x) && (t.pts.all fun p => seenB f p)
def loN (R : Nat → RS) : Nat → Nat
  | 0 => 0
  | k + 1 => if (R k).ph = 0 then loN R k else loN R k ||| 2 ^ k
def prN (T : Tab) (f : FD) (R : Nat → RS) : Nat → Nat
  | 0 => 0
  | k + 1 => if procB f (T.rts.getD k rt0) (R k) then prN T f R k ||| 2 ^ (T.rts.getD k rt0).sig.toNat else prN T f R k
def noN (C : Nat → Nat) : Nat → Nat
  | 0 => 0
  | k + 1 => noN C k ||| (C k &&& 1) * 2 ^ k
def reN (C : Nat → Nat) : Nat → Nat
  | 0 => 0
  | k + 1 => reN C k ||| (C k / 2) * 2 ^ k
structure OD where
  (pr no re lo : Nat)
def od0 : OD := ⟨0, 0, 0, 0⟩
def orderS (T : Tab) (f : FD) (S : AS) : OD := ⟨prN T f S.R T.rts.length, noN S.C T.pts.length, reN S.C T.pts.length, loN S.R T.rts.length⟩
end Go.Proofs.Ytnjeiigdfdjccaa
