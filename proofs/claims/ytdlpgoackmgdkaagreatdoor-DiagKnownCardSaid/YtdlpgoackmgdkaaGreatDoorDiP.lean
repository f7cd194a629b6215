/- Plain: a log's program: its text, its instructions, what it does in a frame. -/
import Derived.Test.YtdlpgoackmgdkaaGreatDoorArPN
namespace Go.Proofs.YtdlpgoackmgdkaaGreatDoor
set_option linter.unusedVariables false
set_option linter.unusedSimpArgs false
/-! ### lines -/
theorem lin_ld (lab : List UInt8) (c : Nat) : linL (aI lab 17 4 0 c) = labT lab ++ [108, 111, 97, 100, 52, 32] ++ Lib.decDigits c ++ [10] := by
  rw [lin_I (by rfl)]; rw [show (rowAt 17).nm = 12 from rfl]; simp [tailL, dec_one (show 4 < 10 by decide), show (rowAt 17).name = [108, 111, 97, 100] from rfl]
theorem lin_st (lab : List UInt8) (c : Nat) : linL (aI lab 18 4 0 c) = labT lab ++ [115, 116, 111, 114, 101, 52, 32] ++ Lib.decDigits c ++ [10] := by
  rw [lin_I (by rfl)]; rw [show (rowAt 18).nm = 12 from rfl]; simp [tailL, dec_one (show 4 < 10 by decide), show (rowAt 18).name = [115, 116, 111, 114, 101] from rfl]
theorem lin_in (lab : List UInt8) {n : Nat} (hn : n < 16) : linL (aI lab 21 n 0 0) = labT lab ++ [105, 110, 32] ++ Lib.decDigits n ++ [10] := by
  rw [lin_I (may_port hn (by decide) (.inl rfl) (by decide) (fun _ => rfl))]
  rw [show (rowAt 21).nm = 1 from rfl, show (rowAt 21).name = [105, 110] from rfl]; simp [tailL]
theorem lin_read (lab : List UInt8) {P b : Nat} (hP : P < 16) (hb : b < 16) : linL (aI lab 23 P b 0) = labT lab ++ [114, 101, 97, 100, 32] ++ Lib.decDigits P ++ [32] ++ Lib.decDigits b ++ [10] := by
  rw [lin_I (may_port hP (by decide) (.inr rfl) hb (by intro h; exact absurd h (by decide)))]
  rw [show (rowAt 23).nm = 3 from rfl, show (rowAt 23).name = [114, 101, 97, 100] from rfl]; simp [tailL]
theorem lin_jump {tgt : List UInt8} (lab : List UInt8) (ht : tgt ≠ []) : linL (aJ lab 19 tgt) = labT lab ++ [106, 117, 109, 112, 32] ++ tgt ++ [10] := by
  rw [lin_J (.inl rfl) ht, show (rowAt 19).name = [106, 117, 109, 112] from rfl]; simp
theorem lin_add (lab : List UInt8) : linL (aI lab 5 0 0 0) = labT lab ++ [97, 100, 100] ++ [10] := lin_0 lab (by rfl) rfl rfl
theorem lin_sub (lab : List UInt8) : linL (aI lab 6 0 0 0) = labT lab ++ [115, 117, 98] ++ [10] := lin_0 lab (by rfl) rfl rfl
theorem lin_mul (lab : List UInt8) : linL (aI lab 7 0 0 0) = labT lab ++ [109, 117, 108] ++ [10] := lin_0 lab (by rfl) rfl rfl
theorem lin_mod (lab : List UInt8) : linL (aI lab 9 0 0 0) = labT lab ++ [109, 111, 100] ++ [10] := lin_0 lab (by rfl) rfl rfl
theorem lin_eq (lab : List UInt8) : linL (aI lab 15 0 0 0) = labT lab ++ [101, 113] ++ [10] := lin_0 lab (by rfl) rfl rfl
theorem lin_less (lab : List UInt8) : linL (aI lab 16 0 0 0) = labT lab ++ [108, 101, 115, 115] ++ [10] := lin_0 lab (by rfl) rfl rfl
theorem lin_drop (lab : List UInt8) : linL (aI lab 3 0 0 0) = labT lab ++ [100, 114, 111, 112] ++ [10] := lin_0 lab (by rfl) rfl rfl
theorem lin_yield (lab : List UInt8) : linL (aI lab 27 0 0 0) = labT lab ++ [121, 105, 101, 108, 100] ++ [10] := lin_0 lab (by rfl) rfl rfl
theorem ld_may (c : Nat) : mayI 17 4 0 c = true := by unfold mayI mayN; simp [show (rowAt 17).nm = 12 from rfl]; decide
theorem st_may (c : Nat) : mayI 18 4 0 c = true := by unfold mayI mayN; simp [show (rowAt 18).nm = 12 from rfl]; decide
theorem in_may {n : Nat} (h : n < 16) : mayI 21 n 0 0 = true := may_port h (by decide) (.inl rfl) (by decide) (fun _ => rfl)
theorem put_may {n b : Nat} (h : n < 16) (hb : b < 16) : mayI 25 n b 0 = true := may_port h (by decide) (.inr rfl) hb (by intro h; exact absurd h (by decide))
theorem read_may {n b : Nat} (h : n < 16) (hb : b < 16) : mayI 23 n b 0 = true := may_port h (by decide) (.inr rfl) hb (by intro h; exact absurd h (by decide))
theorem send_may {n : Nat} (h : n < 16) : mayI 26 n 0 0 = true := may_port h (by decide) (.inl rfl) (by decide) (fun _ => rfl)
/-! ### a log -/
structure LG where
  ins : List Nat
  base : Nat
  size : Nat
  port : Option Nat
def LG.m (g : LG) : Nat := g.ins.length
def LG.wd (g : LG) (j : Nat) : Nat := g.base + 4 * j
def LG.bytes (g : LG) : Nat := 4 * (1 + g.m + 2 * g.size)
structure LG.Ok (g : LG) : Prop where
  m1 : 1 ≤ g.m
  m16 : g.m ≤ 16
  ins : ∀ n ∈ g.ins, n < 16
  s1 : 1 ≤ g.size
  sm : g.size ≤ 1000
  port : ∀ P, g.port = some P → P < 16
  fits : g.base + g.bytes ≤ 4294967296
def placeA (g : LG) (lab : List UInt8) : List AL := [aI lab 1 0 0 g.base, aI [] 17 4 0 0, aI [] 1 0 0 g.size, aI [] 9 0 0 0, aI [] 1 0 0 8, aI [] 7 0 0 0]
def oneA (g : LG) (i n : Nat) (lab : List UInt8) : List AL :=
  [aI lab 21 n 0 0, aI [] 1 0 0 (g.wd (1 + i)), aI [] 17 4 0 0, aI [] 15 0 0 0, aI [] 1 0 0 0, aI [] 15 0 0 0, aJ [] 20 (nL i)] ++
  (placeA g [] ++ ([aI [] 1 0 0 i, aI [] 18 4 0 (g.wd (1 + g.m))] ++ (placeA g [] ++
  [aI [] 21 n 0 0, aI [] 18 4 0 (g.wd (2 + g.m)), aI [] 1 0 0 g.base, aI [] 1 0 0 g.base, aI [] 17 4 0 0, aI [] 1 0 0 1, aI [] 5 0 0 0, aI [] 18 4 0 0, aI [] 1 0 0 (g.wd (1 + i)), aI [] 21 n 0 0, aI [] 18 4 0 0])))
def dtailA (g : LG) (lab : List UInt8) : List AL :=
  aI lab 1 0 0 0 :: aI [] 3 0 0 0 :: ((match g.port with | some P => [aI [] 1 0 0 g.base, aI [] 17 4 0 0, aI [] 25 P 0 0, aI [] 26 P 0 0] | none => []) ++ [aI [] 27 0 0 0])
def lgA (g : LG) : Nat → List UInt8 → List Nat → List AL
  | _, lab, [] => dtailA g lab
  | i, lab, n :: r => oneA g i n lab ++ lgA g (i + 1) (nL i) r
def logA (g : LG) : List AL := lgA g 0 [] g.ins
/-! ### the text -/
def ldT (c : Nat) : List UInt8 := [108, 111, 97, 100, 52, 32] ++ Lib.decDigits c ++ [10]
def stT (c : Nat) : List UInt8 := [115, 116, 111, 114, 101, 52, 32] ++ Lib.decDigits c ++ [10]
def inT (n : Nat) : List UInt8 := [105, 110, 32] ++ Lib.decDigits n ++ [10]
def placeT (g : LG) : List UInt8 := pushT g.base ++ ([108, 111, 97, 100, 52, 32, 48, 10] ++ (pushT g.size ++ [109, 111, 100, 10, 112, 117, 115, 104, 32, 56, 10, 109, 117, 108, 10]))
def oneB (g : LG) (i n : Nat) : List UInt8 :=
  inT n ++ (pushT (g.wd (1 + i)) ++ ([108, 111, 97, 100, 52, 32, 48, 10, 101, 113, 10, 112, 117, 115, 104, 32, 48, 10, 101, 113, 10, 122, 101, 114, 111, 32] ++ nL i ++ [10])) ++ placeT g ++ (pushT i ++ stT (g.wd (1 + g.m))) ++ placeT g ++ (inT n ++ stT (g.wd (2 + g.m))) ++ pushT g.base ++ (pushT g.base ++ [108, 111, 97, 100, 52, 32, 48, 10]) ++ [112, 117, 115, 104, 32, 49, 10, 97, 100, 100, 10, 115, 116, 111, 114, 101, 52, 32, 48, 10] ++ (pushT (g.wd (1 + i)) ++ (inT n ++ [115, 116, 111, 114, 101, 52, 32, 48, 10]))
def dtailT (g : LG) : List UInt8 :=
  [112, 117, 115, 104, 32, 48, 10, 100, 114, 111, 112, 10] ++ ((match g.port with | some P => (pushT g.base ++ [108, 111, 97, 100, 52, 32, 48, 10]) ++ ([112, 117, 116, 32] ++ Lib.decDigits P ++ [32, 48, 10] ++ ([115, 101, 110, 100, 32] ++ Lib.decDigits P ++ [10])) | none => []) ++ [121, 105, 101, 108, 100, 10])
def lgT (g : LG) : Nat → List Nat → List UInt8
  | _, [] => []
  | i, n :: r => oneB g i n ++ (nL i ++ [58, 32]) ++ lgT g (i + 1) r
theorem lgT_snoc (g : LG) : ∀ (l : List Nat) (i : Nat) (x : Nat), lgT g i (l ++ [x]) = lgT g i l ++ (oneB g (i + l.length) x ++ (nL (i + l.length) ++ [58, 32]))
  | [], i, x => by simp [lgT]
  | y :: r, i, x => by
    rw [List.cons_append, lgT, lgT, lgT_snoc g r (i + 1) x, List.length_cons, show i + (r.length + 1) = i + 1 + r.length by omega]
    simp only [List.append_assoc]
theorem dec_8 : Lib.decDigits 8 = [56] := dec_one (by decide)
theorem dec_1 : Lib.decDigits 1 = [49] := dec_one (by decide)
theorem dtail_text {g : LG} (hp : ∀ P, g.port = some P → P < 16) (lab : List UInt8) : (dtailA g lab).flatMap linL = labT lab ++ dtailT g := by
  unfold dtailA dtailT
  cases h : g.port with
  | none => simp [lin_push, lin_drop, lin_yield, labT, pushT, dec_zero]
  | some P => simp [lin_push, lin_drop, lin_yield, lin_ld, lin_put _ (hp P h) (show 0 < 16 by decide), lin_send _ (hp P h), labT, pushT, dec_zero]
set_option maxRecDepth 100000 in
theorem one_text {g : LG} {i n : Nat} (hn : n < 16) (lab : List UInt8) : (oneA g i n lab).flatMap linL = labT lab ++ oneB g i n := by
  unfold oneA oneB placeA placeT
  simp [lin_push, lin_in _ hn, lin_ld, lin_st, lin_eq, lin_mod, lin_mul, lin_add, lin_zero _ (nL_ne i), labT, pushT, inT, stT, dec_zero, dec_8, dec_1, LG.wd]
theorem lg_text {g : LG} (hp : ∀ P, g.port = some P → P < 16) : ∀ (l : List Nat) (i : Nat) (lab : List UInt8), (∀ n ∈ l, n < 16) → (lgA g i lab l).flatMap linL = labT lab ++ lgT g i l ++ dtailT g
  | [], i, lab, _ => by rw [lgA, dtail_text hp]; simp [lgT]
  | n :: r, i, lab, h => by
    rw [lgA, List.flatMap_append, one_text (h n (by simp)), lg_text hp r (i + 1) (nL i) (fun x hx => h x (by simp [hx])), lgT]
    simp [labT, nL_ne]
theorem log_text {g : LG} (h : g.Ok) : (logA g).flatMap linL = lgT g 0 g.ins ++ dtailT g := by
  unfold logA; rw [lg_text h.port _ _ _ h.ins]; simp [labT]
/-! ### they may be -/
def Good (y : AL) : Prop := y.may = true ∧ y.ok
def AllG (l : List AL) : Prop := ∀ y ∈ l, Good y
theorem allg_app {a b : List AL} (ha : AllG a) (hb : AllG b) : AllG (a ++ b) := fun y hy => by
  rcases List.mem_append.1 hy with h | h; (· exact ha y h); (· exact hb y h)
theorem allg_cons {x : AL} {l : List AL} (hx : Good x) (hl : AllG l) : AllG (x :: l) := fun y hy => by
  rcases List.mem_cons.1 hy with rfl | h; (· exact hx); (· exact hl y h)
theorem allg_nil : AllG [] := fun y hy => by cases hy
theorem g_push {lab : List UInt8} {c : Nat} (hl : labOk lab) (hc : c < 4294967296) : Good (aI lab 1 0 0 c) := I_ok hl (push_may c) ⟨by decide, by decide, by decide, hc⟩
theorem g_ld {lab : List UInt8} {c : Nat} (hl : labOk lab) (hc : c < 4294967296) : Good (aI lab 17 4 0 c) := I_ok hl (ld_may c) ⟨by decide, by decide, by decide, hc⟩
theorem g_st {lab : List UInt8} {c : Nat} (hl : labOk lab) (hc : c < 4294967296) : Good (aI lab 18 4 0 c) := I_ok hl (st_may c) ⟨by decide, by decide, by decide, hc⟩
theorem g_in {lab : List UInt8} {n : Nat} (hl : labOk lab) (hn : n < 16) : Good (aI lab 21 n 0 0) := I_ok hl (in_may hn) ⟨by decide, by omega, by decide, by decide⟩
theorem g_put {lab : List UInt8} {n b : Nat} (hl : labOk lab) (hn : n < 16) (hb : b < 16) : Good (aI lab 25 n b 0) := I_ok hl (put_may hn hb) ⟨by decide, by omega, by omega, by decide⟩
theorem g_read {lab : List UInt8} {n b : Nat} (hl : labOk lab) (hn : n < 16) (hb : b < 16) : Good (aI lab 23 n b 0) := I_ok hl (read_may hn hb) ⟨by decide, by omega, by omega, by decide⟩
theorem g_send {lab : List UInt8} {n : Nat} (hl : labOk lab) (hn : n < 16) : Good (aI lab 26 n 0 0) := I_ok hl (send_may hn) ⟨by decide, by omega, by decide, by decide⟩
theorem g_0 {lab : List UInt8} {op : Nat} (hl : labOk lab) (h : mayI op 0 0 0 = true) (ho : op < 256) : Good (aI lab op 0 0 0) := I_ok hl h ⟨ho, by decide, by decide, by decide⟩
theorem g_J {lab tgt : List UInt8} {op : Nat} (h : op = 19 ∨ op = 20) (hl : labOk lab) (ht : labL tgt = true) (htl : tgt.length ≤ 16) : Good (aJ lab op tgt) := ⟨may_J h hl.1 ht, ok_J hl.2 htl (by rcases h with rfl | rfl <;> decide)⟩
theorem LG.Ok.wd {g : LG} (h : g.Ok) {j : Nat} (hj : j ≤ 2 + g.m) : g.wd j < 4294967296 := by
  have := h.fits; have := h.s1; have := h.m1
  unfold LG.bytes at *; unfold LG.wd; omega
theorem LG.Ok.b0 {g : LG} (h : g.Ok) : g.base < 4294967296 := by have := h.wd (j := 0) (by omega); unfold LG.wd at this; omega
theorem place_ok {g : LG} (h : g.Ok) {lab : List UInt8} (hl : labOk lab) : AllG (placeA g lab) := by
  have := h.sm
  exact allg_cons (g_push hl h.b0) (allg_cons (g_ld no_ok (by decide)) (allg_cons (g_push no_ok (by omega)) (allg_cons (g_0 no_ok (by rfl) (by decide)) (allg_cons (g_push no_ok (by decide)) (allg_cons (g_0 no_ok (by rfl) (by decide)) allg_nil)))))
theorem one_ok {g : LG} (h : g.Ok) {i n : Nat} (hi : i < g.m) (hn : n < 16) {lab : List UInt8} (hl : labOk lab) : AllG (oneA g i n lab) := by
  have := h.m16
  have hn2 := nL_ok (i := i) (by omega)
  have hw := h.wd (j := 1 + i) (by omega)
  unfold oneA
  refine allg_app (allg_cons (g_in hl hn) (allg_cons (g_push no_ok hw) (allg_cons (g_ld no_ok (by decide)) (allg_cons (g_0 no_ok (by rfl) (by decide)) (allg_cons (g_push no_ok (by decide)) (allg_cons (g_0 no_ok (by rfl) (by decide)) (allg_cons (g_J (.inr rfl) no_ok (nL_lab (by omega)) hn2.2) allg_nil))))))) ?_
  refine allg_app (place_ok h no_ok) ?_
  refine allg_app (allg_cons (g_push no_ok (by omega)) (allg_cons (g_st no_ok (h.wd (by omega))) allg_nil)) ?_
  refine allg_app (place_ok h no_ok) ?_
  exact allg_cons (g_in no_ok hn) (allg_cons (g_st no_ok (h.wd (by omega))) (allg_cons (g_push no_ok h.b0) (allg_cons (g_push no_ok h.b0) (allg_cons (g_ld no_ok (by decide)) (allg_cons (g_push no_ok (by decide)) (allg_cons (g_0 no_ok (by rfl) (by decide)) (allg_cons (g_st no_ok (by decide)) (allg_cons (g_push no_ok hw) (allg_cons (g_in no_ok hn) (allg_cons (g_st no_ok (by decide)) allg_nil))))))))))
theorem dtail_ok {g : LG} (h : g.Ok) {lab : List UInt8} (hl : labOk lab) : AllG (dtailA g lab) := by
  unfold dtailA
  refine allg_cons (g_push hl (by decide)) (allg_cons (g_0 no_ok (by rfl) (by decide)) (allg_app ?_ (allg_cons (g_0 no_ok (by rfl) (by decide)) allg_nil)))
  cases hp : g.port with
  | none => exact allg_nil
  | some P =>
    have := h.port P hp
    exact allg_cons (g_push no_ok h.b0) (allg_cons (g_ld no_ok (by decide)) (allg_cons (g_put no_ok this (by decide)) (allg_cons (g_send no_ok this) allg_nil)))
theorem lg_ok {g : LG} (h : g.Ok) : ∀ (l : List Nat) (i : Nat) (lab : List UInt8), labOk lab → i + l.length ≤ g.m → (∀ n ∈ l, n < 16) → AllG (lgA g i lab l)
  | [], i, lab, hl, _, _ => dtail_ok h hl
  | n :: r, i, lab, hl, hi, hn => by
    rw [List.length_cons] at hi
    have := h.m16
    rw [lgA]
    exact allg_app (one_ok h (by omega) (hn n (by simp)) hl) (lg_ok h r (i + 1) (nL i) (nL_ok (by omega)) (by omega) (fun x hx => hn x (by simp [hx])))
theorem log_ok {g : LG} (h : g.Ok) : AllG (logA g) := lg_ok h g.ins 0 [] no_ok (by unfold LG.m; omega) h.ins
theorem one_len (g : LG) (i n : Nat) (lab : List UInt8) : (oneA g i n lab).length = 32 := rfl
theorem dtail_len (g : LG) (lab : List UInt8) : (dtailA g lab).length ≤ 7 := by
  unfold dtailA; cases g.port <;> simp
theorem lg_len (g : LG) : ∀ (l : List Nat) (i : Nat) (lab : List UInt8), (lgA g i lab l).length ≤ 32 * l.length + 7
  | [], i, lab => dtail_len g lab
  | x :: r, i, lab => by
    have := lg_len g r (i + 1) (nL i)
    rw [lgA, List.length_append, one_len, List.length_cons]; omega
theorem log_len {g : LG} (h : g.Ok) : (logA g).length ≤ 519 := by
  have := lg_len g g.ins 0 []
  have := h.m16
  unfold LG.m at this; unfold logA; omega
theorem log_parse {g : LG} (h : g.Ok) : parseS ((logA g).flatMap linL) = (logA g, 0, 0) := by
  have := log_len h
  refine parse_all (log_ok h) (by omega) ?_
  have := flatM_len (f := linL) (m := 99) (logA g) (fun x hx => (lin_len (log_ok h x hx).1 (log_ok h x hx).2).2.2)
  omega
/-! ### the instructions -/
def placeC (g : LG) : List Ins := [⟨1, 0, 0, g.base⟩, ⟨17, 4, 0, 0⟩, ⟨1, 0, 0, g.size⟩, ⟨9, 0, 0, 0⟩, ⟨1, 0, 0, 8⟩, ⟨7, 0, 0, 0⟩]
def oneC (g : LG) (i n k : Nat) : List Ins :=
  [⟨21, n, 0, 0⟩, ⟨1, 0, 0, g.wd (1 + i)⟩, ⟨17, 4, 0, 0⟩, ⟨15, 0, 0, 0⟩, ⟨1, 0, 0, 0⟩, ⟨15, 0, 0, 0⟩, ⟨20, 0, 0, k + 32⟩] ++
  (placeC g ++ ([⟨1, 0, 0, i⟩, ⟨18, 4, 0, g.wd (1 + g.m)⟩] ++ (placeC g ++
  [⟨21, n, 0, 0⟩, ⟨18, 4, 0, g.wd (2 + g.m)⟩, ⟨1, 0, 0, g.base⟩, ⟨1, 0, 0, g.base⟩, ⟨17, 4, 0, 0⟩, ⟨1, 0, 0, 1⟩, ⟨5, 0, 0, 0⟩, ⟨18, 4, 0, 0⟩, ⟨1, 0, 0, g.wd (1 + i)⟩, ⟨21, n, 0, 0⟩, ⟨18, 4, 0, 0⟩])))
def dtailC (g : LG) : List Ins :=
  ⟨1, 0, 0, 0⟩ :: ⟨3, 0, 0, 0⟩ :: ((match g.port with | some P => [⟨1, 0, 0, g.base⟩, ⟨17, 4, 0, 0⟩, ⟨25, P, 0, 0⟩, ⟨26, P, 0, 0⟩] | none => []) ++ [⟨27, 0, 0, 0⟩])
def lgC (g : LG) : Nat → Nat → List Nat → List Ins
  | _, _, [] => dtailC g
  | i, k, n :: r => oneC g i n k ++ lgC g (i + 1) (k + 32) r
def logC (g : LG) : List Ins := lgC g 0 0 g.ins
theorem place_labs (g : LG) (lab : List UInt8) (r : List AL) : labs (placeA g lab ++ r) = (if lab = [] then [] else [lab]) ++ labs r := by
  unfold placeA; simp [labs_I]
theorem one_labs (g : LG) (i n : Nat) (lab : List UInt8) (r : List AL) : labs (oneA g i n lab ++ r) = (if lab = [] then [] else [lab]) ++ labs r := by
  unfold oneA
  simp only [List.append_assoc, List.cons_append, List.nil_append, labs_I, labs_J, place_labs]
  simp
theorem dtail_labs (g : LG) (lab : List UInt8) : labs (dtailA g lab) = if lab = [] then [] else [lab] := by
  unfold dtailA
  cases g.port <;> simp only [labs_I, List.nil_append, List.cons_append, show labs [] = [] from rfl] <;> simp
theorem lg_labs (g : LG) : ∀ (l : List Nat) (i : Nat) (lab : List UInt8), labs (lgA g i lab l) = (if lab = [] then [] else [lab]) ++ (List.range' i l.length).map nL
  | [], i, lab => by rw [lgA, dtail_labs]; simp
  | x :: r, i, lab => by
    rw [lgA, one_labs, lg_labs g r (i + 1) (nL i)]
    simp [nL_ne, List.range'_succ]
theorem log_labs (g : LG) : labs (logA g) = (List.range' 0 g.m).map nL := by
  unfold logA; rw [lg_labs]; simp [LG.m]
theorem log_nodup (g : LG) : (labs (logA g)).Nodup := by
  rw [log_labs, List.nodup_iff_pairwise_ne, List.pairwise_map]
  exact List.Pairwise.imp (fun h e => h (nL_inj e)) (List.nodup_iff_pairwise_ne.1 List.nodup_range')
/-- All jumps go to labels of a row. -/
def TgtIn (L : List (List UInt8)) (l : List AL) : Prop := ∀ y ∈ l, y.tgt.data.toList ≠ [] → y.tgt.data.toList ∈ L
theorem tgt_app {L : List (List UInt8)} {a b : List AL} (ha : TgtIn L a) (hb : TgtIn L b) : TgtIn L (a ++ b) := fun y hy => by
  rcases List.mem_append.1 hy with h | h; (· exact ha y h); (· exact hb y h)
theorem tgt_I {L : List (List UInt8)} {lab : List UInt8} {op a b c : Nat} {l : List AL} (hl : TgtIn L l) : TgtIn L (aI lab op a b c :: l) := fun y hy h => by
  rcases List.mem_cons.1 hy with rfl | hy; (· exact absurd rfl h); (· exact hl y hy h)
theorem tgt_J {L : List (List UInt8)} {lab tgt : List UInt8} {op : Nat} {l : List AL} (ht : tgt ∈ L) (hl : TgtIn L l) : TgtIn L (aJ lab op tgt :: l) := fun y hy h => by
  rcases List.mem_cons.1 hy with rfl | hy
  · show (bytesOf tgt).data.toList ∈ L; rw [bytesOf_data]; exact ht
  · exact hl y hy h
theorem tgt_nil {L : List (List UInt8)} : TgtIn L [] := fun y hy => by cases hy
theorem place_tgt {L : List (List UInt8)} (g : LG) (lab : List UInt8) : TgtIn L (placeA g lab) := tgt_I (tgt_I (tgt_I (tgt_I (tgt_I (tgt_I tgt_nil)))))
theorem one_tgt {L : List (List UInt8)} {g : LG} {i n : Nat} {lab : List UInt8} (h : nL i ∈ L) : TgtIn L (oneA g i n lab) := by
  unfold oneA
  refine tgt_app (tgt_I (tgt_I (tgt_I (tgt_I (tgt_I (tgt_I (tgt_J h tgt_nil))))))) (tgt_app (place_tgt g _) (tgt_app (tgt_I (tgt_I tgt_nil)) (tgt_app (place_tgt g _) ?_)))
  exact tgt_I (tgt_I (tgt_I (tgt_I (tgt_I (tgt_I (tgt_I (tgt_I (tgt_I (tgt_I (tgt_I tgt_nil))))))))))
theorem dtail_tgt {L : List (List UInt8)} (g : LG) (lab : List UInt8) : TgtIn L (dtailA g lab) := by
  unfold dtailA
  refine tgt_I (tgt_I (tgt_app ?_ (tgt_I tgt_nil)))
  cases g.port with
  | none => exact tgt_nil
  | some P => exact tgt_I (tgt_I (tgt_I (tgt_I tgt_nil)))
theorem lg_tgt {L : List (List UInt8)} (g : LG) : ∀ (l : List Nat) (i : Nat) (lab : List UInt8), (∀ j, i ≤ j → j < i + l.length → nL j ∈ L) → TgtIn L (lgA g i lab l)
  | [], i, lab, _ => dtail_tgt g lab
  | x :: r, i, lab, h => by
    rw [lgA]
    exact tgt_app (one_tgt (h i (Nat.le_refl _) (by rw [List.length_cons]; omega))) (lg_tgt g r (i + 1) (nL i) (fun j h1 h2 => h j (by omega) (by rw [List.length_cons]; omega)))
theorem log_tgt (g : LG) : TgtIn (labs (logA g)) (logA g) := lg_tgt g g.ins 0 [] (fun j _ h2 => by
  rw [log_labs]; exact List.mem_map.2 ⟨j, by rw [List.mem_range']; exact ⟨j, by unfold LG.m; omega, by omega⟩, rfl⟩)
theorem lg_head (g : LG) (l : List Nat) (i : Nat) (lab : List UInt8) : ∃ x t, lgA g i lab l = x :: t ∧ x.lab = bytesOf lab := by
  cases l with
  | nil => exact ⟨_, _, rfl, rfl⟩
  | cons x r => exact ⟨_, _, rfl, rfl⟩
theorem lg_code {g : LG} {full : List AL} (hnd : (labs full).Nodup) : ∀ (l : List Nat) (i : Nat) (lab : List UInt8) (pre : List AL), full = pre ++ lgA g i lab l → (lgA g i lab l).map (resA full) = lgC g i pre.length l
  | [], i, lab, pre, hf => by
    rw [lgA, lgC]; unfold dtailA dtailC
    cases g.port <;> simp only [List.map_cons, resA_I, List.map_nil, List.map_append, List.nil_append]
  | x :: r, i, lab, pre, hf => by
    obtain ⟨y, t, he, hy⟩ := lg_head g r (i + 1) (nL i)
    have hf2 : full = (pre ++ oneA g i x lab) ++ lgA g (i + 1) (nL i) r := by rw [hf, lgA, List.append_assoc]
    have ih := lg_code hnd r (i + 1) (nL i) _ hf2
    have hf3 := hf2
    rw [he] at hf3
    have hj := resA_J (lab := []) (op := 20) (nL_ne i) hf3 hy hnd
    rw [List.length_append, one_len] at ih hj
    rw [lgA, lgC, List.map_append, ih]
    congr 1
    unfold oneA oneC placeA placeC
    simp only [List.map_append, List.map_cons, resA_I, List.map_nil, hj]
theorem log_asm {g : LG} (h : g.Ok) : asmS (logA g) = (logC g, 0, 0) := by
  have := log_len h
  rw [asm_all (log_ok h) (by omega) (log_nodup g) (log_tgt g)]
  congr 1
  exact lg_code (log_nodup g) g.ins 0 [] [] rfl
theorem log_lenC {g : LG} (h : g.Ok) : (logC g).length ≤ 519 := by
  have := log_len h
  have e := lg_code (g := g) (log_nodup g) g.ins 0 [] [] rfl
  have := congrArg List.length e
  rw [List.length_map] at this
  show (lgC g 0 ([] : List AL).length g.ins).length ≤ 519
  rw [← this]
  exact log_len h
/-! ### what it does -/
def LG.at (g : LG) (d : Nat → Nat) : Nat := 4 + 4 * g.m + 8 * (wordD d 0 % g.size)
def LG.step (g : LG) (i now : Nat) (d : Nat → Nat) : Nat → Nat :=
  if wordD d (4 + 4 * i) = now then d
  else putD (putD (putD (putD d (g.at d) i) (g.at d + 4) now) 0 ((wordD d 0 + 1) % 4294967296)) (4 + 4 * i) now
def stepsS (s : Nat → Nat → (Nat → Nat) → (Nat → Nat)) (f : Nat → Nat) : Nat → List Nat → (Nat → Nat) → (Nat → Nat)
  | _, [], d => d
  | i, n :: r, d => stepsS s f (i + 1) r (s i (f n) d)
def LG.steps (g : LG) (f : Nat → Nat) (i : Nat) (l : List Nat) (d : Nat → Nat) : Nat → Nat := stepsS g.step f i l d
theorem LG.steps_nil (g : LG) (f : Nat → Nat) (i : Nat) (d : Nat → Nat) : g.steps f i [] d = d := by unfold LG.steps; rw [stepsS]
theorem LG.steps_cons (g : LG) (f : Nat → Nat) (i n : Nat) (r : List Nat) (d : Nat → Nat) : g.steps f i (n :: r) d = g.steps f (i + 1) r (g.step i (f n) d) := by unfold LG.steps; rw [stepsS]
def LG.frame (g : LG) (f : Nat → Nat) (d : Nat → Nat) : Nat → Nat := g.steps f 0 g.ins d
def LG.fin (g : LG) (S : MS) : MS :=
  match g.port with
  | none => { S with stack := [], data := g.frame S.ins S.data }
  | some P => { S with stack := [], data := g.frame S.ins S.data, puts := upd S.puts (P * 16) (wordD (g.frame S.ins S.data) 0), sent := upd S.sent P (S.sent P + 1) }
end Go.Proofs.YtdlpgoackmgdkaaGreatDoor
