/- Build: a log's program. -/
import Derived.Test.YtdlpgoackmgdkaaGreatDoorDiW
import Derived.Test.YtdlpgoackmgdkaaGreatDoorArE
import Derived.ArgAppend
namespace Go.Proofs.YtdlpgoackmgdkaaGreatDoor
open Go.RowKit Go.Shelf
set_option linter.unusedVariables false
set_option linter.unusedSimpArgs false
/-! ### lines as strings -/
def puS (n : Nat) : ByteArray := (⟨#[112, 117, 115, 104, 32]⟩ : ByteArray) ++ decS n
def stS (n : Nat) : ByteArray := (⟨#[115, 116, 111, 114, 101, 52, 32]⟩ : ByteArray) ++ decS n
def inS (n : Nat) : ByteArray := (⟨#[105, 110, 32]⟩ : ByteArray) ++ decS n
def nS (n : Nat) : ByteArray := (⟨#[110]⟩ : ByteArray) ++ decS n
def ld0 : ByteArray := ⟨#[108, 111, 97, 100, 52, 32, 48]⟩
def st0 : ByteArray := ⟨#[115, 116, 111, 114, 101, 52, 32, 48]⟩
def countSS (g : LG) : List ByteArray := [puS g.base, ld0]
def placeSS (g : LG) : List ByteArray := [puS g.base, ld0, puS g.size, ⟨#[109, 111, 100]⟩, ⟨#[112, 117, 115, 104, 32, 56]⟩, ⟨#[109, 117, 108]⟩]
theorem ln_pu (n : Nat) : lnB (puS n) = pushT n := by unfold lnB puS pushT; rw [data_app, decS_data]
theorem ln_st (n : Nat) : lnB (stS n) = stT n := by unfold lnB stS stT; rw [data_app, decS_data]
theorem ln_in (n : Nat) : lnB (inS n) = inT n := by unfold lnB inS inT; rw [data_app, decS_data]
theorem lines_nil : linesT [] = [] := rfl
theorem lines_cons (s : ByteArray) (r : List ByteArray) : linesT (s :: r) = lnB s ++ linesT r := rfl
theorem count_lines (g : LG) : linesT (countSS g) = pushT g.base ++ [108, 111, 97, 100, 52, 32, 48, 10] := by
  unfold countSS; rw [lines_cons, lines_cons, lines_nil, ln_pu]; rfl
theorem place_lines (g : LG) : linesT (placeSS g) = placeT g := by
  unfold placeSS placeT; simp only [lines_cons, lines_nil, ln_pu]; simp [lnB, ld0]
theorem head_lines (g : LG) (i n : Nat) : linesT [inS n, puS (g.wd (1 + i)), ld0, ⟨#[101, 113]⟩, ⟨#[112, 117, 115, 104, 32, 48]⟩, ⟨#[101, 113]⟩, (⟨#[122, 101, 114, 111, 32]⟩ : ByteArray) ++ nS i] = inT n ++ (pushT (g.wd (1 + i)) ++ ([108, 111, 97, 100, 52, 32, 48, 10, 101, 113, 10, 112, 117, 115, 104, 32, 48, 10, 101, 113, 10, 122, 101, 114, 111, 32] ++ nL i ++ [10])) := by
  simp only [lines_cons, lines_nil, ln_pu, ln_in]
  unfold lnB ld0 nS nL
  simp only [data_app, decS_data]
  simp
theorem sto_lines (g : LG) (i : Nat) : linesT [puS i, stS (g.wd (1 + g.m))] = pushT i ++ stT (g.wd (1 + g.m)) := by
  simp only [lines_cons, lines_nil, ln_pu, ln_st]; simp
theorem val_lines (g : LG) (n : Nat) : linesT [inS n, stS (g.wd (2 + g.m))] = inT n ++ stT (g.wd (2 + g.m)) := by
  simp only [lines_cons, lines_nil, ln_in, ln_st]; simp
theorem base_lines (g : LG) : linesT [puS g.base] = pushT g.base := by
  simp only [lines_cons, lines_nil, ln_pu]; simp
theorem inc_lines : linesT [⟨#[112, 117, 115, 104, 32, 49]⟩, ⟨#[97, 100, 100]⟩, st0] = [112, 117, 115, 104, 32, 49, 10, 97, 100, 100, 10, 115, 116, 111, 114, 101, 52, 32, 48, 10] := by decide
theorem was_lines (g : LG) (i n : Nat) : linesT [puS (g.wd (1 + i)), inS n, st0] = pushT (g.wd (1 + i)) ++ (inT n ++ [115, 116, 111, 114, 101, 52, 32, 48, 10]) := by
  simp only [lines_cons, lines_nil, ln_pu, ln_in]; simp [lnB, st0]
theorem drop_lines : linesT [⟨#[112, 117, 115, 104, 32, 48]⟩, ⟨#[100, 114, 111, 112]⟩] = [112, 117, 115, 104, 32, 48, 10, 100, 114, 111, 112, 10] := by decide
theorem yield_lines : linesT [⟨#[121, 105, 101, 108, 100]⟩] = [121, 105, 101, 108, 100, 10] := by decide
theorem send_lines (P : Nat) : linesT [(⟨#[112, 117, 116, 32]⟩ : ByteArray) ++ decS P ++ (⟨#[32, 48]⟩ : ByteArray), (⟨#[115, 101, 110, 100, 32]⟩ : ByteArray) ++ decS P] = [112, 117, 116, 32] ++ Lib.decDigits P ++ [32, 48, 10] ++ ([115, 101, 110, 100, 32] ++ Lib.decDigits P ++ [10]) := by
  simp only [lines_cons, lines_nil]; unfold lnB; simp only [data_app, decS_data]; simp
/-! ### how long they are -/
theorem dd20 {n : Nat} (h : n < 18446744073709551616) : (Lib.decDigits n).length ≤ 20 := decS_size n h
theorem pushT_l {n : Nat} (h : n < 18446744073709551616) : (pushT n).length ≤ 26 := pushT_len n h
theorem stT_l {n : Nat} (h : n < 18446744073709551616) : (stT n).length ≤ 28 := by have := dd20 h; simp [stT]; omega
theorem inT_l {n : Nat} (h : n < 18446744073709551616) : (inT n).length ≤ 24 := by have := dd20 h; simp [inT]; omega
theorem placeT_l {g : LG} (h : g.Ok) : (placeT g).length ≤ 100 := by
  have h1 := pushT_l (n := g.base) (by have := h.b0; omega)
  have h2 := pushT_l (n := g.size) (by have := h.sm; omega)
  simp [placeT]; omega
theorem nL_l {i : Nat} (h : i < 1000) : (nL i).length ≤ 16 := (nL_ok h).2
theorem oneB_l {g : LG} (h : g.Ok) {i n : Nat} (hi : i < g.m) (hn : n < 16) : (oneB g i n).length ≤ 700 := by
  have hm := h.m16
  have hw : ∀ j, j ≤ 2 + g.m → g.wd j < 18446744073709551616 := fun j hj => by have := h.wd hj; omega
  have h1 := inT_l (n := n) (by omega); have h2 := pushT_l (hw (1 + i) (by omega)); have h3 := nL_l (i := i) (by omega); have h4 := placeT_l h
  have h5 := pushT_l (n := i) (by omega); have h6 := stT_l (hw (1 + g.m) (by omega)); have h7 := stT_l (hw (2 + g.m) (by omega)); have h8 := pushT_l (n := g.base) (by have := h.b0; omega)
  unfold oneB
  simp only [List.length_append, List.length_cons, List.length_nil]; omega
theorem lgT_l {g : LG} (h : g.Ok) : ∀ (l : List Nat) (i : Nat), i + l.length ≤ g.m → (∀ n ∈ l, n < 16) → (lgT g i l).length ≤ 720 * l.length
  | [], _, _, _ => by simp [lgT]
  | n :: r, i, hi, hn => by
    rw [List.length_cons] at hi
    have := h.m16
    have h1 := oneB_l h (i := i) (n := n) (by omega) (hn n (by simp))
    have h2 := lgT_l h r (i + 1) (by omega) (fun x hx => hn x (by simp [hx]))
    have h3 := nL_l (i := i) (by omega)
    rw [lgT]; simp only [List.length_append, List.length_cons, List.length_nil]; omega
end Go.Proofs.YtdlpgoackmgdkaaGreatDoor
