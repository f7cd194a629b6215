/- Plain: the document's machine: what an instruction does to it, and a frame. -/
import Derived.Test.YtdlpgoackmgdkaaGreatDoorZIsaA
namespace Go.Proofs.YtdlpgoackmgdkaaGreatDoor
set_option linter.unusedVariables false
set_option linter.unusedSimpArgs false
structure MS where
  base : Nat
  dn : Nat
  data : Nat → Nat
  ins : Nat → Nat
  ports : Nat → Nat
  ages : Nat → Nat
  outs : Nat → Nat
  out : Nat → Nat
  puts : Nat → Nat
  sent : Nat → Nat
  stack : List Nat
/-- A place of a row is turned. -/
def upd (f : Nat → Nat) (n x : Nat) : Nat → Nat := fun j => if j = n then x else f j
theorem upd_same (f : Nat → Nat) (n x : Nat) : upd f n x n = x := if_pos rfl
theorem upd_other {f : Nat → Nat} {n x j : Nat} (h : j ≠ n) : upd f n x j = f j := if_neg h
/-- A word of four bytes, the lowest first. -/
def wordD (d : Nat → Nat) (i : Nat) : Nat := d i + d (i + 1) * 256 + d (i + 2) * 65536 + d (i + 3) * 16777216
def putD (d : Nat → Nat) (i x : Nat) : Nat → Nat := fun j => if j = i then x % 256 else if j = i + 1 then x / 256 % 256 else if j = i + 2 then x / 65536 % 256 else if j = i + 3 then x / 16777216 % 256 else d j
theorem word_put (d : Nat → Nat) (i x : Nat) (hx : x < 4294967296) : wordD (putD d i x) i = x := by
  unfold wordD putD
  rw [if_pos rfl, if_neg (by omega), if_pos rfl, if_neg (by omega), if_neg (by omega), if_pos rfl, if_neg (by omega), if_neg (by omega), if_neg (by omega), if_pos rfl]
  omega
theorem word_put_other (d : Nat → Nat) {i k x : Nat} (h : k + 4 ≤ i ∨ i + 4 ≤ k) : wordD (putD d i x) k = wordD d k := by
  unfold wordD putD
  repeat rw [if_neg (by omega), if_neg (by omega), if_neg (by omega), if_neg (by omega)]
theorem put_far (d : Nat → Nat) {i x j : Nat} (h : j < i ∨ i + 4 ≤ j) : putD d i x j = d j := by
  unfold putD
  rw [if_neg (by omega), if_neg (by omega), if_neg (by omega), if_neg (by omega)]
theorem put_lt (d : Nat → Nat) (i x : Nat) (h : ∀ j, d j < 256) : ∀ j, putD d i x j < 256 := fun j => by
  unfold putD
  have := h j
  repeat' split
  all_goals omega
theorem word_lt (d : Nat → Nat) (h : ∀ j, d j < 256) (i : Nat) : wordD d i < 4294967296 := by
  have h0 := h i; have h1 := h (i + 1); have h2 := h (i + 2); have h3 := h (i + 3)
  unfold wordD; omega
/-- Of two words. -/
inductive Sum2 : Nat → Nat → Nat → Nat → Prop where
  | add (x y : Nat) : Sum2 5 x y ((x + y) % 4294967296)
  | sub (x y : Nat) : Sum2 6 x y ((x + (4294967296 - y)) % 4294967296)
  | mul (x y : Nat) : Sum2 7 x y (x * y % 4294967296)
  | rem (x y : Nat) : y ≠ 0 → Sum2 9 x y (x % y)
  | and (x y : Nat) : Sum2 10 x y (x &&& y)
  | or (x y : Nat) : Sum2 11 x y (x ||| y)
  | xor (x y : Nat) : Sum2 12 x y (x ^^^ y)
  | shl (x y : Nat) : Sum2 13 x y (x * 2 ^ (y % 32) % 4294967296)
  | shr (x y : Nat) : Sum2 14 x y (x / 2 ^ (y % 32))
  | eq (x y : Nat) : Sum2 15 x y (if x = y then 1 else 0)
  | less (x y : Nat) : Sum2 16 x y (if x < y then 1 else 0)
theorem Sum2.lt {op x y z : Nat} (hx : x < 4294967296) (hy : y < 4294967296) (h : Sum2 op x y z) : z < 4294967296 := by
  have m : ∀ a, a % 4294967296 < 4294967296 := fun a => Nat.mod_lt _ (by decide)
  cases h with
  | add => exact m _
  | sub => exact m _
  | mul => exact m _
  | rem _ _ h => exact Nat.lt_of_le_of_lt (Nat.mod_le _ _) hx
  | and => exact Nat.and_lt_two_pow (n := 32) _ hy
  | or => exact Nat.or_lt_two_pow (n := 32) hx hy
  | xor => exact Nat.xor_lt_two_pow (n := 32) hx hy
  | shl => exact m _
  | shr => exact Nat.lt_of_le_of_lt (Nat.div_le_self _ _) hx
  | eq => split <;> decide
  | less => split <;> decide
inductive Nx where
  | next
  | jmp (c : Nat)
  | stop
inductive Ex : Ins → MS → Nx → MS → Prop where
  | push (a b c : Nat) (S : MS) : Ex ⟨1, a, b, c⟩ S .next { S with stack := c :: S.stack }
  | drop (a b c x : Nat) (r : List Nat) (S : MS) : S.stack = x :: r → Ex ⟨3, a, b, c⟩ S .next { S with stack := r }
  | sum (op a b c x y z : Nat) (r : List Nat) (S : MS) : S.stack = y :: x :: r → Sum2 op x y z → Ex ⟨op, a, b, c⟩ S .next { S with stack := z :: r }
  | load (b c x : Nat) (r : List Nat) (S : MS) : S.stack = x :: r → S.base ≤ x + c → x + c + 4 ≤ S.base + S.dn → x + c + 4 ≤ 4294967296 → Ex ⟨17, 4, b, c⟩ S .next { S with stack := wordD S.data (x + c - S.base) :: r }
  | store (b c x y : Nat) (r : List Nat) (S : MS) : S.stack = y :: x :: r → S.base ≤ x + c → x + c + 4 ≤ S.base + S.dn → x + c + 4 ≤ 4294967296 → Ex ⟨18, 4, b, c⟩ S .next { S with stack := r, data := putD S.data (x + c - S.base) y }
  | jump (a b c : Nat) (S : MS) : Ex ⟨19, a, b, c⟩ S (.jmp c) S
  | zero (a b c : Nat) (r : List Nat) (S : MS) : S.stack = 0 :: r → Ex ⟨20, a, b, c⟩ S (.jmp c) { S with stack := r }
  | else_ (a b c x : Nat) (r : List Nat) (S : MS) : S.stack = x :: r → x ≠ 0 → Ex ⟨20, a, b, c⟩ S .next { S with stack := r }
  | in_ (a b c : Nat) (S : MS) : a < 16 → b < 16 → Ex ⟨21, a, b, c⟩ S .next { S with stack := S.ins a :: S.stack }
  | out (a b c x : Nat) (r : List Nat) (S : MS) : S.stack = x :: r → a < 16 → b < 16 → Ex ⟨22, a, b, c⟩ S .next { S with stack := r, outs := upd S.outs a x, out := upd S.out a (S.out a + 1) }
  | read (a b c : Nat) (S : MS) : a < 16 → b < 16 → Ex ⟨23, a, b, c⟩ S .next { S with stack := S.ports (a * 16 + b) :: S.stack }
  | put (a b c x : Nat) (r : List Nat) (S : MS) : S.stack = x :: r → a < 16 → b < 16 → Ex ⟨25, a, b, c⟩ S .next { S with stack := r, puts := upd S.puts (a * 16 + b) x }
  | send (a b c : Nat) (S : MS) : a < 16 → b < 16 → Ex ⟨26, a, b, c⟩ S .next { S with sent := upd S.sent a (S.sent a + 1) }
  | yield (a b c : Nat) (S : MS) : Ex ⟨27, a, b, c⟩ S .stop S
/-- A frame from a place on: it goes forward alone, and at most 16 words lie on the stack. -/
inductive Run (code : List Ins) : Nat → MS → MS → Prop where
  | stop (pc : Nat) (i : Ins) (S S' : MS) : code[pc]? = some i → Ex i S .stop S' → Run code pc S S'
  | next (pc : Nat) (i : Ins) (S S1 S' : MS) : code[pc]? = some i → Ex i S .next S1 → S1.stack.length ≤ 16 → Run code (pc + 1) S1 S' → Run code pc S S'
  | jmp (pc c : Nat) (i : Ins) (S S1 S' : MS) : code[pc]? = some i → Ex i S (.jmp c) S1 → pc < c → Run code c S1 S' → Run code pc S S'
def MS.begin (S : MS) : MS := { S with stack := [], out := fun _ => 0, sent := fun _ => 0 }
/-- All that it has are words. -/
structure MS.Ok (S : MS) : Prop where
  base : S.base < 4294967296
  data : ∀ j, S.data j < 256
  ins : ∀ j, S.ins j < 4294967296
  ports : ∀ j, S.ports j < 4294967296
  ages : ∀ j, S.ages j < 4294967296
  outs : ∀ j, S.outs j < 4294967296
  puts : ∀ j, S.puts j < 4294967296
  stack : ∀ x ∈ S.stack, x < 4294967296
theorem upd_lt {f : Nat → Nat} {n x m : Nat} (h : ∀ j, f j < m) (hx : x < m) : ∀ j, upd f n x j < m := fun j => by
  unfold upd; split; (· exact hx); (· exact h j)
theorem MS.Ok.begin {S : MS} (h : S.Ok) : S.begin.Ok := ⟨h.base, h.data, h.ins, h.ports, h.ages, h.outs, h.puts, fun x hx => by cases hx⟩
theorem MS.Ok.stk {S : MS} (h : S.Ok) {l : List Nat} (hl : ∀ x ∈ l, x < 4294967296) : ({ S with stack := l } : MS).Ok := ⟨h.base, h.data, h.ins, h.ports, h.ages, h.outs, h.puts, hl⟩
theorem Ex.ok {i : Ins} {S S' : MS} {n : Nx} (he : Ex i S n S') (h : S.Ok) (hi : i.c < 4294967296) : S'.Ok := by
  have hs := h.stack
  cases he with
  | push a b c => exact h.stk fun y hy => by rcases List.mem_cons.1 hy with rfl | hy; (· exact hi); (· exact hs y hy)
  | drop a b c x r _ e => exact h.stk fun y hy => hs y (by rw [e]; simp [hy])
  | sum op a b c x y z r _ e hz => exact h.stk fun u hu => by rcases List.mem_cons.1 hu with rfl | hu; (· exact hz.lt (hs x (by rw [e]; simp)) (hs y (by rw [e]; simp))); (· exact hs u (by rw [e]; simp [hu]))
  | load b c x r _ e => exact h.stk fun u hu => by rcases List.mem_cons.1 hu with rfl | hu; (· exact word_lt _ h.data _); (· exact hs u (by rw [e]; simp [hu]))
  | store b c x y r _ e => exact ⟨h.base, put_lt _ _ _ h.data, h.ins, h.ports, h.ages, h.outs, h.puts, fun u hu => hs u (by rw [e]; simp [show u ∈ r from hu])⟩
  | jump => exact h
  | zero a b c r _ e => exact h.stk fun y hy => hs y (by rw [e]; simp [hy])
  | else_ a b c x r _ e => exact h.stk fun y hy => hs y (by rw [e]; simp [hy])
  | in_ a b c _ _ _ => exact h.stk fun y hy => by rcases List.mem_cons.1 hy with rfl | hy; (· exact h.ins _); (· exact hs y hy)
  | out a b c x r _ e => exact ⟨h.base, h.data, h.ins, h.ports, h.ages, upd_lt h.outs (hs x (by rw [e]; simp)), h.puts, fun y hy => hs y (by rw [e]; simp [show y ∈ r from hy])⟩
  | read => exact h.stk fun y hy => by rcases List.mem_cons.1 hy with rfl | hy; (· exact h.ports _); (· exact hs y hy)
  | put a b c x r _ e => exact ⟨h.base, h.data, h.ins, h.ports, h.ages, h.outs, upd_lt h.puts (hs x (by rw [e]; simp)), fun y hy => hs y (by rw [e]; simp [show y ∈ r from hy])⟩
  | send => exact ⟨h.base, h.data, h.ins, h.ports, h.ages, h.outs, h.puts, hs⟩
  | yield => exact h
theorem Ex.same {i : Ins} {S S' : MS} {n : Nx} (he : Ex i S n S') : S'.base = S.base ∧ S'.dn = S.dn ∧ S'.ins = S.ins ∧ S'.ports = S.ports ∧ S'.ages = S.ages := by
  cases he <;> exact ⟨rfl, rfl, rfl, rfl, rfl⟩
theorem Run.same {code : List Ins} {pc : Nat} {S S' : MS} (h : Run code pc S S') : S'.base = S.base ∧ S'.dn = S.dn ∧ S'.ins = S.ins ∧ S'.ports = S.ports ∧ S'.ages = S.ages := by
  induction h with
  | stop pc i S S' hi hx => exact hx.same
  | next pc i S S1 S' hi hx _ _ ih =>
    obtain ⟨a1, a2, a3, a4, a5⟩ := hx.same
    obtain ⟨b1, b2, b3, b4, b5⟩ := ih
    exact ⟨b1.trans a1, b2.trans a2, b3.trans a3, b4.trans a4, b5.trans a5⟩
  | jmp pc c i S S1 S' hi hx _ _ ih =>
    obtain ⟨a1, a2, a3, a4, a5⟩ := hx.same
    obtain ⟨b1, b2, b3, b4, b5⟩ := ih
    exact ⟨b1.trans a1, b2.trans a2, b3.trans a3, b4.trans a4, b5.trans a5⟩
theorem Run.ok {code : List Ins} (hc : ∀ i ∈ code, i.c < 4294967296) {pc : Nat} {S S' : MS} (h : Run code pc S S') (hS : S.Ok) : S'.Ok := by
  induction h with
  | stop pc i S S' hi hx => exact hx.ok hS (hc i (List.mem_of_getElem? hi))
  | next pc i S S1 S' hi hx _ _ ih => exact ih (hx.ok hS (hc i (List.mem_of_getElem? hi)))
  | jmp pc c i S S1 S' hi hx _ _ ih => exact ih (hx.ok hS (hc i (List.mem_of_getElem? hi)))
end Go.Proofs.YtdlpgoackmgdkaaGreatDoor
/- Plain: how a program's run is followed, instruction by instruction. -/
namespace Go.Proofs.YtdlpgoackmgdkaaGreatDoor
set_option linter.unusedVariables false
set_option linter.unusedSimpArgs false
theorem drop_get {α : Type} {l : List α} {n : Nat} {x : α} {r : List α} (h : l.drop n = x :: r) : l[n]? = some x ∧ l.drop (n + 1) = r := by
  constructor
  · have := congrArg (fun t => t[0]?) h
    simpa using this
  · rw [← List.drop_drop, h]; rfl
theorem drop_lt {α : Type} {l : List α} {n : Nat} {x : α} {r : List α} (h : l.drop n = x :: r) : n < l.length := by
  have := congrArg List.length h
  rw [List.length_drop, List.length_cons] at this; omega
theorem Run.one {code rest : List Ins} {pc : Nat} {i : Ins} {S S1 S' : MS} (h : code.drop pc = i :: rest) (hx : Ex i S .next S1) (hl : S1.stack.length ≤ 16) (k : code.drop (pc + 1) = rest → Run code (pc + 1) S1 S') : Run code pc S S' :=
  .next pc i S S1 S' (drop_get h).1 hx hl (k (drop_get h).2)
theorem Run.jump {code rest : List Ins} {pc c : Nat} {i : Ins} {S S1 S' : MS} (h : code.drop pc = i :: rest) (hx : Ex i S (.jmp c) S1) (hl : pc < c) (k : Run code c S1 S') : Run code pc S S' :=
  .jmp pc c i S S1 S' (drop_get h).1 hx hl k
theorem Run.end {code rest : List Ins} {pc : Nat} {a b c : Nat} {S : MS} (h : code.drop pc = ⟨27, a, b, c⟩ :: rest) : Run code pc S S :=
  .stop pc _ S S (drop_get h).1 (.yield _ _ _ _)
theorem ex_push (a b c : Nat) (S : MS) : Ex ⟨1, a, b, c⟩ S .next { S with stack := c :: S.stack } := .push _ _ _ _
theorem ex_drop {a b c x : Nat} {r : List Nat} {S : MS} (h : S.stack = x :: r) : Ex ⟨3, a, b, c⟩ S .next { S with stack := r } := .drop _ _ _ x _ _ h
theorem ex_sum {op a b c x y z : Nat} {r : List Nat} {S : MS} (h : S.stack = y :: x :: r) (hz : Sum2 op x y z) : Ex ⟨op, a, b, c⟩ S .next { S with stack := z :: r } := .sum _ _ _ _ x y z r _ h hz
theorem ex_load {b c x : Nat} {r : List Nat} {S : MS} (h : S.stack = x :: r) (h1 : S.base ≤ x + c) (h2 : x + c + 4 ≤ S.base + S.dn) (h3 : x + c + 4 ≤ 4294967296) : Ex ⟨17, 4, b, c⟩ S .next { S with stack := wordD S.data (x + c - S.base) :: r } := .load _ _ _ _ _ h h1 h2 h3
theorem ex_store {b c x y : Nat} {r : List Nat} {S : MS} (h : S.stack = y :: x :: r) (h1 : S.base ≤ x + c) (h2 : x + c + 4 ≤ S.base + S.dn) (h3 : x + c + 4 ≤ 4294967296) : Ex ⟨18, 4, b, c⟩ S .next { S with stack := r, data := putD S.data (x + c - S.base) y } := .store _ _ _ _ _ _ h h1 h2 h3
theorem ex_jump (a b c : Nat) (S : MS) : Ex ⟨19, a, b, c⟩ S (.jmp c) S := .jump _ _ _ _
theorem ex_zero {a b c : Nat} {r : List Nat} {S : MS} (h : S.stack = 0 :: r) : Ex ⟨20, a, b, c⟩ S (.jmp c) { S with stack := r } := .zero _ _ _ _ _ h
theorem ex_else {a b c x : Nat} {r : List Nat} {S : MS} (h : S.stack = x :: r) (hx : x ≠ 0) : Ex ⟨20, a, b, c⟩ S .next { S with stack := r } := .else_ _ _ _ _ _ _ h hx
theorem ex_in {a b c : Nat} {S : MS} (ha : a < 16) (hb : b < 16) : Ex ⟨21, a, b, c⟩ S .next { S with stack := S.ins a :: S.stack } := .in_ _ _ _ _ ha hb
theorem ex_out {a b c x : Nat} {r : List Nat} {S : MS} (h : S.stack = x :: r) (ha : a < 16) (hb : b < 16) : Ex ⟨22, a, b, c⟩ S .next { S with stack := r, outs := upd S.outs a x, out := upd S.out a (S.out a + 1) } := .out _ _ _ _ _ _ h ha hb
theorem ex_read {a b c : Nat} {S : MS} (ha : a < 16) (hb : b < 16) : Ex ⟨23, a, b, c⟩ S .next { S with stack := S.ports (a * 16 + b) :: S.stack } := .read _ _ _ _ ha hb
theorem ex_put {a b c x : Nat} {r : List Nat} {S : MS} (h : S.stack = x :: r) (ha : a < 16) (hb : b < 16) : Ex ⟨25, a, b, c⟩ S .next { S with stack := r, puts := upd S.puts (a * 16 + b) x } := .put _ _ _ _ _ _ h ha hb
theorem ex_send {a b c : Nat} {S : MS} (ha : a < 16) (hb : b < 16) : Ex ⟨26, a, b, c⟩ S .next { S with sent := upd S.sent a (S.sent a + 1) } := .send _ _ _ _ ha hb
theorem upd_upd (f : Nat → Nat) (n x y : Nat) : upd (upd f n x) n y = upd f n y := by
  funext j; unfold upd; split <;> rfl
end Go.Proofs.YtdlpgoackmgdkaaGreatDoor
