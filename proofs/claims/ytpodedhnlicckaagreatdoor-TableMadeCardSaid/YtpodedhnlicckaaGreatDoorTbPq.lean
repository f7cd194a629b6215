/- Plain: words put one behind the other; the document's pieces; how far a text has come. -/
import Derived.Test.YtpodedhnlicckaaGreatDoorTbPk
import Derived.Test.YtpodedhnlicckaaGreatDoorTbPu
namespace Go.Proofs.YtpodedhnlicckaaGreatDoor
set_option linter.unusedVariables false
set_option linter.unusedSimpArgs false
set_option maxRecDepth 100000
def mid (l : List UInt8) : Prop := l ≠ [] ∧ l.getLast? ≠ some 10
def begL (l : List UInt8) : Prop := l = [] ∨ l.getLast? = some 10
def putW (l : List UInt8) (ws : List (List UInt8)) : List UInt8 := ws.foldl put1 l
theorem putL_eq (l : List UInt8) (ws : List ByteArray) : putL l ws = putW l (ws.map fun s => s.data.toList) := by
  unfold putL putW; rw [List.foldl_map]
def okW (q : List UInt8) : Prop := q ≠ [] ∧ 10 ∉ q
theorem mid_app {l q : List UInt8} (hq : okW q) : mid (l ++ q) := by
  refine ⟨by simp [hq.1], ?_⟩
  rw [List.getLast?_append, List.getLast?_eq_some_getLast hq.1]
  intro e
  have e : q.getLast hq.1 = 10 := Option.some.inj e
  exact hq.2 (e ▸ List.getLast_mem hq.1)
theorem put1_mid {l s : List UInt8} (h : mid l) : put1 l s = l ++ 32 :: s := by
  unfold put1
  rw [if_neg (fun e => e.elim h.1 h.2), List.append_assoc]; rfl
theorem put1_beg {l s : List UInt8} (h : begL l) : put1 l s = l ++ s := by unfold put1; unfold begL at h; rw [if_pos h]
theorem joinB_snoc : ∀ {ws : List (List UInt8)}, ws ≠ [] → ∀ u, joinB 32 (ws ++ [u]) = joinB 32 ws ++ 32 :: u
  | [], h, _ => absurd rfl h
  | [q], _, u => rfl
  | q :: x :: t, _, u => by
    rw [List.cons_append, joinB_cons 32 q (by simp), joinB_cons 32 q (by simp), joinB_snoc (by simp) u]; simp
theorem joinB_mid {ws : List (List UInt8)} (h : ws ≠ []) (hw : ∀ q ∈ ws, okW q) (F : List UInt8) : mid (F ++ joinB 32 ws) := by
  have e := (List.dropLast_concat_getLast h).symm
  have hl : okW (ws.getLast h) := hw _ (List.getLast_mem h)
  generalize ws.getLast h = u at *
  generalize ws.dropLast = p at *
  subst e
  cases p with
  | nil => exact mid_app hl
  | cons a p =>
    rw [joinB_snoc (by simp), ← List.append_assoc, show (32 : UInt8) :: u = [32] ++ u from rfl, ← List.append_assoc]
    exact mid_app hl
theorem putW_mid (F : List UInt8) : ∀ (us ws : List (List UInt8)), ws ≠ [] → (∀ q ∈ ws, okW q) → (∀ q ∈ us, okW q) → putW (F ++ joinB 32 ws) us = F ++ joinB 32 (ws ++ us)
  | [], ws, _, _, _ => by rw [List.append_nil]; rfl
  | u :: us, ws, h, hw, hu => by
    show putW (put1 (F ++ joinB 32 ws) u) us = _
    rw [put1_mid (joinB_mid h hw F), List.append_assoc, ← joinB_snoc h, putW_mid F us (ws ++ [u]) (by simp) ?_ (fun q hq => hu q (List.mem_cons_of_mem _ hq)), List.append_assoc]; rfl
    intro q hq
    rcases List.mem_append.1 hq with hq | hq
    · exact hw q hq
    · obtain rfl := List.mem_singleton.1 hq
      exact hu q (by simp)
theorem putW_beg {F : List UInt8} (h : begL F) {u : List UInt8} {us : List (List UInt8)} (hu : ∀ q ∈ u :: us, okW q) : putW F (u :: us) = F ++ joinB 32 (u :: us) := by
  show putW (put1 F u) us = _
  rw [put1_beg h]
  exact putW_mid F us [u] (by simp) (fun q hq => by obtain rfl := List.mem_singleton.1 hq; exact hu q (by simp)) (fun q hq => hu q (List.mem_cons_of_mem _ hq))
theorem put1_len (l s : List UInt8) : (put1 l s).length ≤ l.length + s.length + 1 := by
  unfold put1
  split
  · rw [List.length_append]; omega
  · simp only [List.length_append, List.length_singleton]; omega
theorem putW_len (m : Nat) : ∀ (ws : List (List UInt8)) (l : List UInt8), (∀ s ∈ ws, s.length ≤ m) → (putW l ws).length ≤ l.length + ws.length * (m + 1)
  | [], l, _ => by show l.length ≤ _; omega
  | u :: us, l, h => by
    show (putW (put1 l u) us).length ≤ _
    have h1 := putW_len m us (put1 l u) (fun q hq => h q (List.mem_cons_of_mem _ hq))
    have h2 := put1_len l u
    have h3 := h u (by simp)
    rw [List.length_cons, Nat.succ_mul]
    omega
/-! ### the text, as far as it has come -/
def headT (T : Tab) : List UInt8 := lineT [wTr, dI T.tracks] ++ lineT [wSi, dI T.sigs]
def ptsX (F : List UInt8) (l : List Int) : List UInt8 := F ++ l.flatMap fun p => lineT [wPt, dI p]
def rtsX (F : List UInt8) (l : List Rt) : List UInt8 := F ++ l.flatMap fun r => lineT (rtW r)
theorem textT_eq (T : Tab) : textT T = rtsX (ptsX (headT T) T.pts) T.rts := by
  unfold textT linesT rtsX ptsX headT
  simp only [List.flatMap_cons, List.flatMap_append, List.flatMap_map, List.append_assoc]
theorem begL_line (F : List UInt8) (ws : List (List UInt8)) : begL (F ++ lineT ws) := .inr (by unfold lineT; rw [← List.append_assoc, List.getLast?_concat])
theorem begL_flat {α : Type} (g : α → List (List UInt8)) : ∀ (l : List α) (F : List UInt8), begL F → begL (F ++ l.flatMap fun x => lineT (g x))
  | [], F, h => by simpa using h
  | x :: l, F, h => by
    rw [List.flatMap_cons, ← List.append_assoc]
    exact begL_flat g l _ (begL_line F _)
theorem begL_head (T : Tab) : begL (headT T) := begL_line _ _
theorem begL_pts (T : Tab) (l : List Int) : begL (ptsX (headT T) l) := begL_flat _ l _ (begL_head T)
theorem begL_rts {F : List UInt8} (h : begL F) (l : List Rt) : begL (rtsX F l) := begL_flat _ l _ h
theorem flat_snoc {α β : Type} (f : α → List β) (l : List α) (x : α) : (l ++ [x]).flatMap f = l.flatMap f ++ f x := by simp
theorem take_snocG {α : Type} {l : List α} {k : Nat} {d : α} (h : k < l.length) : l.take (k + 1) = l.take k ++ [l.getD k d] := by
  rw [List.take_add_one, List.getD_eq_getElem?_getD, List.getElem?_eq_getElem h]; rfl
theorem ptsX_snoc (F : List UInt8) (l : List Int) (x : Int) : ptsX F (l ++ [x]) = ptsX F l ++ lineT [wPt, dI x] := by unfold ptsX; rw [flat_snoc, List.append_assoc]
theorem rtsX_snoc (F : List UInt8) (l : List Rt) (x : Rt) : rtsX F (l ++ [x]) = rtsX F l ++ lineT (rtW x) := by unfold rtsX; rw [flat_snoc, List.append_assoc]
theorem all_snoc {α : Type} (l : List α) (x : α) (p : α → Bool) : (l ++ [x]).all p = (l.all p && p x) := by simp
theorem itoa_dI {x : Int} (h : inR x = true) : Lib.itoa x = dI x := by
  have := (inR_iff.1 h).1
  unfold Lib.itoa dI
  rw [if_neg (by omega)]
theorem okW_dec (n : Nat) : okW (Lib.decDigits n) := by
  obtain ⟨d, r, e, _⟩ := dec_head n
  exact ⟨by rw [e]; simp, (cleanT_dec n).2⟩
theorem okW_dI (x : Int) : okW (dI x) := okW_dec _
theorem okW_ptW (p : Int × Bool) : okW (ptW p) := ⟨by unfold ptW; simp, (cleanT_ptW p).2⟩
theorem okW_rtW (r : Rt) : ∀ q ∈ rtW r, okW q := by
  intro q hq
  refine ⟨?_, (cleanT_rtW r q hq).2⟩
  unfold rtW appW at hq
  simp only [List.mem_cons, List.mem_append, List.mem_map] at hq
  rcases hq with rfl | rfl | rfl | ⟨x, _, rfl⟩ | rfl | ⟨x, _, rfl⟩ | h | rfl | rfl | rfl | ⟨x, _, rfl⟩
  · decide
  · exact (okW_dI _).1
  · decide
  · exact (okW_dI _).1
  · decide
  · exact (okW_ptW _).1
  · by_cases ha : r.app = -1
    · rw [if_pos ha] at h; cases h
    · rw [if_neg ha] at h
      simp at h
      rcases h with rfl | rfl
      · decide
      · exact (okW_dI _).1
  · decide
  · exact (okW_dec _).1
  · decide
  · exact (okW_dI _).1
end Go.Proofs.YtpodedhnlicckaaGreatDoor
