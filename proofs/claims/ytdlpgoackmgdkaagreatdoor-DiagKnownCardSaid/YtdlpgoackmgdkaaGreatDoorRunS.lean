/- Plain: a program's run, step by step: the stack and the data are named. -/
import Derived.Test.YtdlpgoackmgdkaaGreatDoorMaPR
namespace Go.Proofs.YtdlpgoackmgdkaaGreatDoor
set_option linter.unusedVariables false
set_option linter.unusedSimpArgs false
def MS.at2 (S : MS) (l : List Nat) (d : Nat → Nat) : MS := { S with stack := l, data := d }
theorem MS.at2_self {S : MS} (h : S.stack = []) : S = S.at2 [] S.data := by unfold MS.at2; rw [← h]
theorem drop_app {α : Type} {l a b : List α} {n : Nat} (h : l.drop n = a ++ b) : l.drop (n + a.length) = b := by
  rw [← List.drop_drop, h, List.drop_left]
section
variable {code rest : List Ins} {pc : Nat} {S S' : MS} {l : List Nat} {d : Nat → Nat}
theorem r_push {a b c : Nat} (h : code.drop pc = ⟨1, a, b, c⟩ :: rest) (k : code.drop (pc + 1) = rest → Run code (pc + 1) (S.at2 (c :: l) d) S') (hl : l.length ≤ 15 := by simp) : Run code pc (S.at2 l d) S' :=
  Run.one h (ex_push _ _ _ _) (by show (c :: l).length ≤ 16; rw [List.length_cons]; omega) k
theorem r_drop {a b c x : Nat} (h : code.drop pc = ⟨3, a, b, c⟩ :: rest) (k : code.drop (pc + 1) = rest → Run code (pc + 1) (S.at2 l d) S') (hl : l.length ≤ 15 := by simp) : Run code pc (S.at2 (x :: l) d) S' :=
  Run.one h (ex_drop (x := x) (r := l) rfl) (by show l.length ≤ 16; omega) k
theorem r_sum {op a b c x y z : Nat} (h : code.drop pc = ⟨op, a, b, c⟩ :: rest) (hz : Sum2 op x y z) (k : code.drop (pc + 1) = rest → Run code (pc + 1) (S.at2 (z :: l) d) S') (hl : l.length ≤ 15 := by simp) : Run code pc (S.at2 (y :: x :: l) d) S' :=
  Run.one h (ex_sum (x := x) (y := y) (r := l) rfl hz) (by show (z :: l).length ≤ 16; rw [List.length_cons]; omega) k
theorem r_load {b c x o : Nat} (h : code.drop pc = ⟨17, 4, b, c⟩ :: rest) (h1 : x + c = S.base + o) (h2 : o + 4 ≤ S.dn) (h3 : S.base + S.dn ≤ 4294967296) (k : code.drop (pc + 1) = rest → Run code (pc + 1) (S.at2 (wordD d o :: l) d) S') (hl : l.length ≤ 15 := by simp) : Run code pc (S.at2 (x :: l) d) S' :=
  Run.one h (ex_load (x := x) (r := l) rfl (by show S.base ≤ _; omega) (by show _ ≤ S.base + S.dn; omega) (by omega)) (by show (_ :: l).length ≤ 16; rw [List.length_cons]; omega) (by
    show _ → Run code (pc + 1) (S.at2 (wordD d (x + c - S.base) :: l) d) S'
    rw [show x + c - S.base = o by omega]; exact k)
theorem r_store {b c x y o : Nat} (h : code.drop pc = ⟨18, 4, b, c⟩ :: rest) (h1 : x + c = S.base + o) (h2 : o + 4 ≤ S.dn) (h3 : S.base + S.dn ≤ 4294967296) (k : code.drop (pc + 1) = rest → Run code (pc + 1) (S.at2 l (putD d o y)) S') (hl : l.length ≤ 15 := by simp) : Run code pc (S.at2 (y :: x :: l) d) S' :=
  Run.one h (ex_store (x := x) (y := y) (r := l) rfl (by show S.base ≤ _; omega) (by show _ ≤ S.base + S.dn; omega) (by omega)) (by show l.length ≤ 16; omega) (by
    show _ → Run code (pc + 1) (S.at2 l (putD d (x + c - S.base) y)) S'
    rw [show x + c - S.base = o by omega]; exact k)
theorem r_jump {a b c : Nat} (h : code.drop pc = ⟨19, a, b, c⟩ :: rest) (hl : pc < c) (k : Run code c (S.at2 l d) S') : Run code pc (S.at2 l d) S' :=
  Run.jump h (ex_jump _ _ _ _) hl k
theorem r_zero {a b c : Nat} (h : code.drop pc = ⟨20, a, b, c⟩ :: rest) (hl : pc < c) (k : Run code c (S.at2 l d) S') : Run code pc (S.at2 (0 :: l) d) S' :=
  Run.jump h (ex_zero (r := l) rfl) hl k
theorem r_else {a b c x : Nat} (h : code.drop pc = ⟨20, a, b, c⟩ :: rest) (hx : x ≠ 0) (k : code.drop (pc + 1) = rest → Run code (pc + 1) (S.at2 l d) S') (hl : l.length ≤ 15 := by simp) : Run code pc (S.at2 (x :: l) d) S' :=
  Run.one h (ex_else (x := x) (r := l) rfl hx) (by show l.length ≤ 16; omega) k
theorem r_in {a b c : Nat} (h : code.drop pc = ⟨21, a, b, c⟩ :: rest) (ha : a < 16) (hb : b < 16) (k : code.drop (pc + 1) = rest → Run code (pc + 1) (S.at2 (S.ins a :: l) d) S') (hl : l.length ≤ 15 := by simp) : Run code pc (S.at2 l d) S' :=
  Run.one h (ex_in ha hb) (by show (_ :: l).length ≤ 16; rw [List.length_cons]; omega) k
theorem r_read {a b c : Nat} (h : code.drop pc = ⟨23, a, b, c⟩ :: rest) (ha : a < 16) (hb : b < 16) (k : code.drop (pc + 1) = rest → Run code (pc + 1) (S.at2 (S.ports (a * 16 + b) :: l) d) S') (hl : l.length ≤ 15 := by simp) : Run code pc (S.at2 l d) S' :=
  Run.one h (ex_read ha hb) (by show (_ :: l).length ≤ 16; rw [List.length_cons]; omega) k
theorem r_out {a b c x : Nat} (h : code.drop pc = ⟨22, a, b, c⟩ :: rest) (ha : a < 16) (hb : b < 16) (k : code.drop (pc + 1) = rest → Run code (pc + 1) (({ S with outs := upd S.outs a x, out := upd S.out a (S.out a + 1) } : MS).at2 l d) S') (hl : l.length ≤ 15 := by simp) : Run code pc (S.at2 (x :: l) d) S' :=
  Run.one h (ex_out (x := x) (r := l) rfl ha hb) (by show l.length ≤ 16; omega) k
theorem r_put {a b c x : Nat} (h : code.drop pc = ⟨25, a, b, c⟩ :: rest) (ha : a < 16) (hb : b < 16) (k : code.drop (pc + 1) = rest → Run code (pc + 1) (({ S with puts := upd S.puts (a * 16 + b) x } : MS).at2 l d) S') (hl : l.length ≤ 15 := by simp) : Run code pc (S.at2 (x :: l) d) S' :=
  Run.one h (ex_put (x := x) (r := l) rfl ha hb) (by show l.length ≤ 16; omega) k
theorem r_send {a b c : Nat} (h : code.drop pc = ⟨26, a, b, c⟩ :: rest) (ha : a < 16) (hb : b < 16) (k : code.drop (pc + 1) = rest → Run code (pc + 1) (({ S with sent := upd S.sent a (S.sent a + 1) } : MS).at2 l d) S') (hl : l.length ≤ 15 := by simp) : Run code pc (S.at2 l d) S' :=
  Run.one h (ex_send ha hb) (by show l.length ≤ 16; omega) k
theorem r_yield {a b c : Nat} (h : code.drop pc = ⟨27, a, b, c⟩ :: rest) : Run code pc S S := Run.end h
end
end Go.Proofs.YtdlpgoackmgdkaaGreatDoor
