/- Plain: what is printed is parsed as the table; what is parsed is printed as the text. -/
import Derived.Test.YtpodedhnlicckaaGreatDoorTbPl
namespace Go.Proofs.YtpodedhnlicckaaGreatDoor
set_option linter.unusedVariables false
set_option linter.unusedSimpArgs false
set_option maxRecDepth 100000
/-! ### words without blanks and ends of lines -/
def cleanT (l : List UInt8) : Prop := 32 ∉ l ∧ 10 ∉ l
theorem cleanT_dec (n : Nat) : cleanT (Lib.decDigits n) := ⟨fun h => by have := dec_dig n _ h; revert this; decide, fun h => by have := dec_dig n _ h; revert this; decide⟩
theorem cleanT_ptW (p : Int × Bool) : cleanT (ptW p) := by
  have h := cleanT_dec p.1.toNat
  have sg : ∀ b : Bool, (32 : UInt8) ∉ [if b = true then (45 : UInt8) else 43] ∧ (10 : UInt8) ∉ [if b = true then (45 : UInt8) else 43] := by decide
  unfold ptW
  constructor <;> intro hm <;> rcases List.mem_append.1 hm with hm | hm
  · exact h.1 hm
  · exact (sg p.2).1 hm
  · exact h.2 hm
  · exact (sg p.2).2 hm
theorem cleanT_rtW (r : Rt) : ∀ q ∈ rtW r, cleanT q := by
  have w : ∀ q ∈ [wRo, wTr, wPs, wAp, wHo, wCo], cleanT q := by
    intro q hq
    simp at hq
    rcases hq with rfl | rfl | rfl | rfl | rfl | rfl <;> exact ⟨by decide, by decide⟩
  intro q hq
  unfold rtW appW at hq
  simp only [List.mem_cons, List.mem_append, List.mem_map] at hq
  rcases hq with rfl | rfl | rfl | ⟨x, _, rfl⟩ | rfl | ⟨x, _, rfl⟩ | h | rfl | rfl | rfl | ⟨x, _, rfl⟩
  · exact w _ (by simp)
  · exact cleanT_dec _
  · exact w _ (by simp)
  · exact cleanT_dec _
  · exact w _ (by simp)
  · exact cleanT_ptW _
  · by_cases ha : r.app = -1
    · rw [if_pos ha] at h; cases h
    · rw [if_neg ha] at h
      simp at h
      rcases h with rfl | rfl
      · exact w _ (by simp)
      · exact cleanT_dec _
  · exact w _ (by simp)
  · exact cleanT_dec _
  · exact w _ (by simp)
  · exact cleanT_dec _
theorem joinB_no {c : UInt8} (hc : c ≠ 32) : ∀ {ws : List (List UInt8)}, (∀ q ∈ ws, c ∉ q) → c ∉ joinB 32 ws
  | [], _ => by simp [joinB]
  | [q], h => h q (by simp)
  | q :: x :: t, h => by
    rw [joinB_cons 32 q (by simp)]
    intro hm
    rcases List.mem_append.1 hm with hm | hm
    · exact h q (by simp) hm
    · rcases List.mem_cons.1 hm with hm | hm
      · exact hc hm
      · exact joinB_no hc (fun y hy => h y (List.mem_cons_of_mem _ hy)) hm
theorem cleanT_lines (T : Tab) : ∀ ws ∈ linesT T, ws ≠ [] ∧ ∀ q ∈ ws, cleanT q := by
  have two : ∀ w x, cleanT w → ∀ q ∈ [w, dI x], cleanT q := fun w x hw q hq => by
    simp at hq
    rcases hq with rfl | rfl
    · exact hw
    · exact cleanT_dec _
  intro ws hws
  unfold linesT at hws
  simp only [List.mem_cons, List.mem_append, List.mem_map] at hws
  rcases hws with rfl | rfl | ⟨p, _, rfl⟩ | ⟨r, _, rfl⟩
  · exact ⟨by simp, two _ _ ⟨by decide, by decide⟩⟩
  · exact ⟨by simp, two _ _ ⟨by decide, by decide⟩⟩
  · exact ⟨by simp, two _ _ ⟨by decide, by decide⟩⟩
  · exact ⟨by unfold rtW; simp, cleanT_rtW r⟩
theorem part_lines : ∀ (ls : List (List (List UInt8))), (∀ ws ∈ ls, ∀ q ∈ ws, cleanT q) → partL 10 (ls.flatMap lineT) = ls.map (joinB 32) ++ [[]]
  | [], _ => rfl
  | ws :: ls, h => by
    have hn : 10 ∉ joinB 32 ws := joinB_no (by decide) (fun q hq => (h ws (by simp) q hq).2)
    rw [List.flatMap_cons]
    show partL 10 (joinB 32 ws ++ [10] ++ _) = _
    rw [List.append_assoc]
    show partL 10 (joinB 32 ws ++ 10 :: ls.flatMap lineT) = _
    rw [partL_front 10 _ hn, part_lines ls (fun y hy => h y (List.mem_cons_of_mem _ hy))]; rfl
theorem words_of {ws : List (List UInt8)} (h : ws ≠ []) (hc : ∀ q ∈ ws, cleanT q) : partL 32 (joinB 32 ws) = ws := part_join 32 ws h (fun q hq => (hc q hq).1)
/-! ### parsed as it was -/
theorem parT_nil (n : Nat) (T : Tab) : parT n T [] = (tab0, n + 1, 262) := rfl
theorem parT_one (n : Nat) (T : Tab) (l : List UInt8) : parT n T [l] = if 2 ≤ n ∧ l = [] then (T, 0, 0) else (tab0, n + 1, 262) := rfl
theorem parT_cons (n : Nat) (T : Tab) (l m : List UInt8) (r : List (List UInt8)) : parT n T (l :: m :: r) = (match stepT T n l with | none => (tab0, n + 1, 262) | some T' => parT (n + 1) T' (m :: r)) := rfl
theorem twoT_eq (w a d : List UInt8) : twoT w [a, d] = if a = w then numI d else none := rfl
theorem twoT_of {w : List UInt8} {x : Int} (h : inR x = true) : twoT w [w, dI x] = some x := by rw [twoT_eq, if_pos rfl, numI_dI h]
theorem parT_more {n : Nat} {T T' : Tab} {l : List UInt8} {ls : List (List UInt8)} (hl : ls ≠ []) (h : stepT T n l = some T') : parT n T (l :: ls) = parT (n + 1) T' ls := by
  cases ls with
  | nil => exact absurd rfl hl
  | cons m r => rw [parT_cons, h]
theorem parT_no {n : Nat} {T : Tab} {l : List UInt8} {ls : List (List UInt8)} (hl : ls ≠ []) (h : stepT T n l = none) : parT n T (l :: ls) = (tab0, n + 1, 262) := by
  cases ls with
  | nil => exact absurd rfl hl
  | cons m r => rw [parT_cons, h]
theorem step_pt {T : Tab} {n : Nat} {x : Int} (hn : 2 ≤ n) (hr : T.rts = []) (hx : inR x = true) : stepT T n (joinB 32 [wPt, dI x]) = some { T with pts := T.pts ++ [x] } := by
  have hw : partL 32 (joinB 32 [wPt, dI x]) = [wPt, dI x] := words_of (by simp) (fun q hq => by
    simp at hq
    rcases hq with rfl | rfl
    · exact ⟨by decide, by decide⟩
    · exact cleanT_dec _)
  unfold stepT
  rw [if_neg (by omega), if_neg (by omega), hw, if_pos ⟨rfl, hr⟩, twoT_of hx]; rfl
theorem step_rt {T : Tab} {n : Nat} {r : Rt} (hn : 2 ≤ n) (hr : goodR r = true) (hh : r.hold ≤ 65535) : stepT T n (joinB 32 (rtW r)) = some { T with rts := T.rts ++ [r] } := by
  have hw : partL 32 (joinB 32 (rtW r)) = rtW r := words_of (by unfold rtW; simp) (cleanT_rtW r)
  unfold stepT
  rw [if_neg (by omega), if_neg (by omega), hw, if_neg (by rintro ⟨h, _⟩; exact absurd (Option.some.inj h) (by decide)), rtT_rtW hr hh]; rfl
theorem par_rts : ∀ (rs : List Rt) (n : Nat) (T : Tab), 2 ≤ n → (∀ r ∈ rs, goodR r = true ∧ r.hold ≤ 65535) → parT n T ((rs.map rtW).map (joinB 32) ++ [[]]) = ({ T with rts := T.rts ++ rs }, 0, 0)
  | [], n, T, hn, _ => by
    show parT n T [[]] = _
    rw [parT_one, if_pos ⟨hn, rfl⟩, List.append_nil]
  | r :: rs, n, T, hn, h => by
    rw [List.map_cons, List.map_cons, List.cons_append, parT_more (by simp) (step_rt hn (h r (by simp)).1 (h r (by simp)).2), par_rts rs (n + 1) _ (by omega) (fun y hy => h y (List.mem_cons_of_mem _ hy))]
    simp
theorem par_pts : ∀ (ps : List Int) (rs : List Rt) (n : Nat) (T : Tab), 2 ≤ n → T.rts = [] → (∀ x ∈ ps, inR x = true) → (∀ r ∈ rs, goodR r = true ∧ r.hold ≤ 65535) →
    parT n T ((ps.map (fun p => [wPt, dI p]) ++ rs.map rtW).map (joinB 32) ++ [[]]) = ({ T with pts := T.pts ++ ps, rts := rs }, 0, 0)
  | [], rs, n, T, hn, ht, _, hr => by
    rw [List.map_nil, List.nil_append, par_rts rs n T hn hr, ht, List.append_nil, List.nil_append]
  | p :: ps, rs, n, T, hn, ht, hp, hr => by
    rw [List.map_cons, List.cons_append, List.map_cons, List.cons_append, parT_more (by simp) (step_pt hn ht (hp p (by simp))), par_pts ps rs (n + 1) { T with pts := T.pts ++ [p] } (by omega) ht (fun y hy => hp y (List.mem_cons_of_mem _ hy)) hr]
    simp
/-- What is printed is parsed as the table. -/
theorem tback1 {T : Tab} (hg : goodT T = true) (hh : ∀ r ∈ T.rts, r.hold ≤ 65535) (hl : (textT T).length ≤ 8000) : parseT (textT T) = (T, 0, 0) := by
  unfold goodT at hg
  simp only [Bool.and_eq_true, List.all_eq_true] at hg
  obtain ⟨h1, h2, h3, h4⟩ := hg
  unfold parseT
  rw [if_neg (by omega)]
  unfold textT
  rw [part_lines _ (fun ws hws => (cleanT_lines T ws hws).2)]
  have w1 : partL 32 (joinB 32 [wTr, dI T.tracks]) = [wTr, dI T.tracks] := words_of (by simp) (cleanT_lines T _ (by unfold linesT; simp)).2
  have w2 : partL 32 (joinB 32 [wSi, dI T.sigs]) = [wSi, dI T.sigs] := words_of (by simp) (cleanT_lines T _ (by unfold linesT; simp)).2
  have s1 : stepT tab0 0 (joinB 32 [wTr, dI T.tracks]) = some ⟨T.tracks, [], 0, []⟩ := by unfold stepT; rw [if_pos rfl, w1, twoT_of h1]; rfl
  have s2 : stepT ⟨T.tracks, [], 0, []⟩ 1 (joinB 32 [wSi, dI T.sigs]) = some ⟨T.tracks, [], T.sigs, []⟩ := by unfold stepT; rw [if_neg (by decide), if_pos rfl, w2, twoT_of h2]; rfl
  unfold linesT
  rw [List.map_cons, List.map_cons, List.cons_append, List.cons_append, parT_more (by simp) s1, parT_more (by simp) s2, par_pts T.pts T.rts 2 _ (by decide) rfl h3 (fun r hr => ⟨h4 r hr, hh r hr⟩)]
  rfl
/-! ### printed as it was -/
theorem twoT_inv {w : List UInt8} {ws : List (List UInt8)} {x : Int} (h : twoT w ws = some x) : ws = [w, dI x] ∧ inR x = true := by
  match ws, h with
  | [], h => cases h
  | [_], h => cases h
  | [a, d], h =>
    rw [twoT_eq] at h
    by_cases ha : a = w
    · rw [if_pos ha] at h
      obtain ⟨h1, h2⟩ := numI_inv h
      exact ⟨by rw [ha, h1], h2⟩
    · rw [if_neg ha] at h; cases h
  | _ :: _ :: _ :: _, h => cases h
theorem join_words {l : List UInt8} {ws : List (List UInt8)} (h : partL 32 l = ws) : joinB 32 ws = l := by rw [← h, join_part]
theorem par_inv : ∀ (ls : List (List UInt8)) (n : Nat) (T T' : Tab) (k : Nat), 2 ≤ n → parT n T ls = (T', k, 0) →
    k = 0 ∧ ∃ ps rs, T' = ⟨T.tracks, T.pts ++ ps, T.sigs, T.rts ++ rs⟩ ∧ (T.rts ≠ [] → ps = []) ∧ ls = (ps.map (fun p => [wPt, dI p]) ++ rs.map rtW).map (joinB 32) ++ [[]] ∧ ps.all inR = true ∧ rs.all goodR = true ∧ ∀ r ∈ rs, r.hold ≤ 65535
  | [], n, T, T', k, hn, h => by
    rw [parT_nil] at h
    exact absurd (Prod.mk.inj (Prod.mk.inj h).2).2 (by decide)
  | [l], n, T, T', k, hn, h => by
    rw [parT_one] at h
    by_cases hc : 2 ≤ n ∧ l = []
    · rw [if_pos hc] at h
      obtain ⟨h1, h2⟩ := Prod.mk.inj h
      obtain ⟨rfl, _⟩ := Prod.mk.inj h2
      refine ⟨rfl, [], [], by rw [← h1]; simp, fun _ => rfl, by rw [hc.2]; rfl, rfl, rfl, by simp⟩
    · rw [if_neg hc] at h
      exact absurd (Prod.mk.inj (Prod.mk.inj h).2).2 (by decide)
  | l :: m :: r, n, T, T', k, hn, h => by
    cases hs : stepT T n l with
    | none =>
      rw [parT_no (by simp) hs] at h
      exact absurd (Prod.mk.inj (Prod.mk.inj h).2).2 (by decide)
    | some T1 =>
      rw [parT_more (by simp) hs] at h
      obtain ⟨hk, ps, rs, e1, e2, e3, e4, e5, e6⟩ := par_inv (m :: r) (n + 1) T1 T' k (by omega) h
      unfold stepT at hs
      rw [if_neg (by omega), if_neg (by omega)] at hs
      by_cases hc : (partL 32 l).head? = some wPt ∧ T.rts = []
      · rw [if_pos hc] at hs
        cases ht : twoT wPt (partL 32 l) with
        | none => rw [ht] at hs; cases hs
        | some x =>
          rw [ht] at hs
          obtain rfl := Option.some.inj hs
          obtain ⟨h1, h2⟩ := twoT_inv ht
          refine ⟨hk, x :: ps, rs, by rw [e1]; simp, fun h => absurd hc.2 h, ?_, by rw [List.all_cons, h2, e4]; rfl, e5, e6⟩
          rw [e3, ← join_words h1]; rfl
      · rw [if_neg hc] at hs
        cases ht : rtT (partL 32 l) with
        | none => rw [ht] at hs; cases hs
        | some x =>
          rw [ht] at hs
          obtain rfl := Option.some.inj hs
          obtain ⟨h1, h2, h3⟩ := rtT_inv ht
          obtain rfl : ps = [] := e2 (by simp)
          refine ⟨hk, [], x :: rs, by rw [e1]; simp, fun _ => rfl, ?_, rfl, by rw [List.all_cons, h2, e5]; rfl, fun y hy => ?_⟩
          · rw [e3, ← join_words h1.symm]; rfl
          · rcases List.mem_cons.1 hy with rfl | hy
            · exact h3
            · exact e6 y hy
theorem join_ends : ∀ xs : List (List UInt8), joinB 10 (xs ++ [[]]) = xs.flatMap (fun x => x ++ [10])
  | [] => rfl
  | x :: xs => by
    rw [List.cons_append, joinB_cons 10 x (by simp), join_ends xs, List.flatMap_cons, List.append_assoc]; rfl
/-- What is parsed is printed as the text. -/
theorem tback2 {s : List UInt8} {T : Tab} {k : Nat} (h : parseT s = (T, k, 0)) : k = 0 ∧ textT T = s ∧ goodT T = true ∧ s.length ≤ 8000 ∧ ∀ r ∈ T.rts, r.hold ≤ 65535 := by
  unfold parseT at h
  by_cases hb : 8000 < s.length
  · rw [if_pos hb] at h
    exact absurd (Prod.mk.inj (Prod.mk.inj h).2).2 (by decide)
  rw [if_neg hb] at h
  have hj := join_part 10 s
  generalize partL 10 s = ls at *
  have err : ∀ {n : Nat}, (tab0, n + 1, 262) = (T, k, 0) → False := fun h => absurd (Prod.mk.inj (Prod.mk.inj h).2).2 (by decide)
  match ls, h, hj with
  | [], h, _ => rw [parT_nil] at h; exact (err h).elim
  | [l], h, _ => rw [parT_one, if_neg (by rintro ⟨h, _⟩; omega)] at h; exact (err h).elim
  | l :: [l'], h, _ =>
    cases hs : stepT tab0 0 l with
    | none => rw [parT_no (by simp) hs] at h; exact (err h).elim
    | some T1 =>
      rw [parT_more (by simp) hs, parT_one, if_neg (by rintro ⟨h, _⟩; omega)] at h; exact (err h).elim
  | l :: m :: x :: r, h, hj =>
    cases hs : stepT tab0 0 l with
    | none => rw [parT_no (by simp) hs] at h; exact (err h).elim
    | some T1 =>
      rw [parT_more (by simp) hs] at h
      cases hs2 : stepT T1 1 m with
      | none => rw [parT_no (by simp) hs2] at h; exact (err h).elim
      | some T2 =>
        rw [parT_more (by simp) hs2] at h
        obtain ⟨hk, ps, rs, e1, e2, e3, e4, e5, e6⟩ := par_inv (x :: r) 2 T2 T k (Nat.le_refl _) h
        unfold stepT at hs hs2
        rw [if_pos rfl] at hs
        rw [if_neg (by decide), if_pos rfl] at hs2
        cases h1 : twoT wTr (partL 32 l) with
        | none => rw [h1] at hs; cases hs
        | some a =>
          rw [h1] at hs
          obtain rfl := Option.some.inj hs
          cases h2 : twoT wSi (partL 32 m) with
          | none => rw [h2] at hs2; cases hs2
          | some b =>
            rw [h2] at hs2
            obtain rfl := Option.some.inj hs2
            obtain ⟨a1, a2⟩ := twoT_inv h1
            obtain ⟨b1, b2⟩ := twoT_inv h2
            have hT : T = ⟨a, ps, b, rs⟩ := by rw [e1]; rfl
            refine ⟨hk, ?_, ?_, by omega, ?_⟩
            · rw [← hj, e3, ← join_words a1, ← join_words b1, hT]
              unfold textT linesT
              simp only
              rw [show joinB 32 [wTr, dI a] :: joinB 32 [wSi, dI b] :: ((ps.map (fun p => [wPt, dI p]) ++ rs.map rtW).map (joinB 32) ++ [[]]) = ([wTr, dI a] :: [wSi, dI b] :: (ps.map (fun p => [wPt, dI p]) ++ rs.map rtW)).map (joinB 32) ++ [[]] by rfl, join_ends, List.flatMap_map]
              rfl
            · rw [hT]; unfold goodT
              simp only
              rw [a2, b2, e4, e5]; rfl
            · rw [hT]; exact e6
/-! ### which line is none -/
theorem par_pre : ∀ (pre : List (List UInt8)) (n : Nat) (T : Tab) (t1 t2 : List (List UInt8)) (k : Nat), t1 ≠ [] → t2 ≠ [] → parT n T (pre ++ t1) = (tab0, k, 262) → k ≤ n + pre.length → 1 ≤ k → n < k → parT n T (pre ++ t2) = (tab0, k, 262)
  | [], n, T, t1, t2, k, _, _, _, hk, _, hn => by simp at hk; omega
  | l :: pre, n, T, t1, t2, k, h1, h2, h, hk, hk1, hn => by
    cases hs : stepT T n l with
    | none =>
      rw [List.cons_append, parT_no (by simp [h1]) hs] at h
      rw [List.cons_append, parT_no (by simp [h2]) hs]; exact h
    | some T' =>
      rw [List.cons_append, parT_more (by simp [h1]) hs] at h
      rw [List.cons_append, parT_more (by simp [h2]) hs]
      have hlow : n + 1 < k := by
        have : ∀ (ls : List (List UInt8)) (n : Nat) (T : Tab) (k : Nat), parT n T ls = (tab0, k, 262) → n < k := by
          intro ls
          induction ls with
          | nil => intro n T k h; rw [parT_nil] at h; have := (Prod.mk.inj (Prod.mk.inj h).2).1; omega
          | cons l ls ih =>
            intro n T k h
            cases ls with
            | nil =>
              rw [parT_one] at h
              by_cases hc : 2 ≤ n ∧ l = []
              · rw [if_pos hc] at h
                exact absurd (Prod.mk.inj (Prod.mk.inj h).2).2 (by decide)
              · rw [if_neg hc] at h
                have := (Prod.mk.inj (Prod.mk.inj h).2).1; omega
            | cons m r =>
              cases hs : stepT T n l with
              | none => rw [parT_no (by simp) hs] at h; have := (Prod.mk.inj (Prod.mk.inj h).2).1; omega
              | some T' => rw [parT_more (by simp) hs] at h; have := ih (n + 1) T' k h; omega
        exact this _ _ _ _ h
      exact par_pre pre (n + 1) T' t1 t2 k h1 h2 h (by rw [List.length_cons] at hk; omega) hk1 hlow
end Go.Proofs.YtpodedhnlicckaaGreatDoor
