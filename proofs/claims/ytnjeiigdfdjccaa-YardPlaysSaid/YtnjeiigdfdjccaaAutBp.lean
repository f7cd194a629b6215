/- What a step hangs on: plain law for AutoBits. -/
import Derived.Test.YtnjeiigdfdjccaaAutTk
namespace Go.Proofs.Ytnjeiigdfdjccaa
set_option linter.unusedVariables false
set_option linter.unusedSimpArgs false
/-- All tracks of a table that may be are there. -/
structure TIn (T : Tab) : Prop where
  tr : ∀ n, n < T.rts.length → ∀ i, i < (T.rts.getD n rt0).tr.length → 0 ≤ (T.rts.getD n rt0).tr.getD i 0 ∧ (T.rts.getD n rt0).tr.getD i 0 < T.tracks
  tl : ∀ n, n < T.rts.length → 0 < (T.rts.getD n rt0).tr.length
  ap : ∀ n, n < T.rts.length → (T.rts.getD n rt0).app < T.tracks
  pp : ∀ n, n < T.rts.length → ∀ i, i < (T.rts.getD n rt0).pts.length → 0 ≤ ((T.rts.getD n rt0).pts.getD i (0, false)).1 ∧ ((T.rts.getD n rt0).pts.getD i (0, false)).1 < T.pts.length
  pt : ∀ i, i < T.pts.length → 0 ≤ T.pts.getD i 0 ∧ T.pts.getD i 0 < T.tracks
theorem tin_of {T : Tab} (h : checkE T = 0) : TIn T := by
  have c := ckOk h
  refine ⟨fun n hn i hi => ?_, fun n hn => ?_, fun n hn => ?_, fun n hn i hi => ?_, c.pt⟩
  · have := withinI_iff.1 (rtOk (c.rt n hn)).tw i hi
    exact ⟨this.1, this.2.1⟩
  · have := (rtOk (c.rt n hn)).t0; omega
  · exact (rtOk (c.rt n hn)).a1
  · have := withinI_iff.1 (rtOk (c.rt n hn)).pw i (by rw [ownP_len]; exact hi)
    rw [ownP_get _ hi] at this
    exact ⟨this.1, this.2.1⟩
structure FEq (T : Tab) (f g : FD) : Prop where
  cl : ∀ x : Int, 0 ≤ x → x < T.tracks → bt f.cl x = bt g.cl x
  no : ∀ x : Int, 0 ≤ x → x < T.pts.length → bt f.no x = bt g.no x
  re : ∀ x : Int, 0 ≤ x → x < T.pts.length → bt f.re x = bt g.re x
  ak : ∀ n, n < T.rts.length → f.ak.testBit n = g.ak.testBit n
  ca : ∀ n, n < T.rts.length → f.ca.testBit n = g.ca.testBit n
  rq : ∀ n, n < T.rts.length → (f.rq == n + 1) = (g.rq == n + 1)
theorem usedN_eq {f g : FD} {l : List Int} {u : Nat} : ∀ {k : Nat}, (∀ i, i < k → bt f.cl (l.getD i 0) = bt g.cl (l.getD i 0)) → usedN f l u k = usedN g l u k
  | 0, _ => rfl
  | k + 1, h => by
    show (if bt f.cl (l.getD k 0) then _ else _) = (if bt g.cl (l.getD k 0) then _ else _)
    rw [h k (Nat.lt_succ_self _), usedN_eq (fun i hi => h i (by omega))]
theorem relN_eq {f g : FD} {l : List Int} {us x : Nat} : ∀ {k : Nat}, (∀ i, i < k → bt f.cl (l.getD i 0) = bt g.cl (l.getD i 0)) → relN f l us x k = relN g l us x k
  | 0, _ => rfl
  | k + 1, h => by
    simp only [relN]
    rw [h k (Nat.lt_succ_self _), relN_eq (fun i hi => h i (by omega))]
theorem goR_eq {T : Tab} {f g : FD} (hT : TIn T) (h : FEq T f g) {n : Nat} (hn : n < T.rts.length) (r : RS) : goR f (T.rts.getD n rt0) n r = goR g (T.rts.getD n rt0) n r := by
  have h1 : goR1 f (T.rts.getD n rt0) n r = goR1 g (T.rts.getD n rt0) n r := by
    unfold goR1
    have e0 := h.cl _ (hT.tr n hn 0 (hT.tl n hn)).1 (hT.tr n hn 0 (hT.tl n hn)).2
    rw [e0, h.ca n hn]
    by_cases ha : 0 ≤ (T.rts.getD n rt0).app
    · rw [h.cl _ ha (hT.ap n hn)]
    · simp only [ha, false_and]
  have h2 : ∀ r, trainR f (T.rts.getD n rt0).tr r = trainR g (T.rts.getD n rt0).tr r := fun r => by
    unfold trainR
    have hc : ∀ i, i < (T.rts.getD n rt0).tr.length → bt f.cl ((T.rts.getD n rt0).tr.getD i 0) = bt g.cl ((T.rts.getD n rt0).tr.getD i 0) := fun i hi => h.cl _ (hT.tr n hn i hi).1 (hT.tr n hn i hi).2
    rw [usedN_eq hc, relN_eq hc]
  unfold goR
  rw [h1, h2]
theorem all_congr {α : Type} [Inhabited α] {l : List α} {p q : α → Bool} {d : α} (h : ∀ i, i < l.length → p (l.getD i d) = q (l.getD i d)) : l.all p = l.all q := by
  rw [Bool.eq_iff_iff, List.all_eq_true, List.all_eq_true]
  refine ⟨fun hp x hx => ?_, fun hp x hx => ?_⟩
  all_goals
    obtain ⟨i, hi, rfl⟩ := List.mem_iff_getElem.1 hx
    have e := h i hi
    rw [List.getD_eq_getElem?_getD, List.getElem?_eq_getElem hi] at e
    have e' : p l[i] = q l[i] := e
    first | (rw [← e']; exact hp _ hx) | (rw [e']; exact hp _ hx)
theorem askOk_eq {T : Tab} {f g : FD} (hT : TIn T) (h : FEq T f g) {n : Nat} (hn : n < T.rts.length) (S : AS) : askOk T f S n = askOk T g S n := by
  unfold askOk
  rw [h.ak n hn, h.rq n hn, all_congr (d := (0 : Int)) (p := fun x => bt f.cl x) (q := fun x => bt g.cl x) (fun i hi => h.cl _ (hT.tr n hn i hi).1 (hT.tr n hn i hi).2),
    all_congr (d := ((0 : Int), false)) (p := fun p => S.C p.1.toNat == needP p || bt f.cl (T.pts.getD p.1.toNat 0)) (q := fun p => S.C p.1.toNat == needP p || bt g.cl (T.pts.getD p.1.toNat 0)) (fun i hi => by
      have hp := hT.pp n hn i hi
      have := hT.pt ((T.rts.getD n rt0).pts.getD i (0, false)).1.toNat (by omega)
      show (_ || _) = (_ || _)
      rw [h.cl _ this.1 this.2])]
theorem goK_eq {T : Tab} {f g : FD} (hT : TIn T) (h : FEq T f g) (S : AS) : ∀ {k : Nat}, k ≤ T.rts.length → goK T f S k = goK T g S k
  | 0, _ => rfl
  | k + 1, hk => by
    show goS T f _ k = goS T g _ k
    rw [goK_eq hT h S (by omega)]
    unfold goS
    rw [goR_eq hT h hk]
theorem askK_eq {T : Tab} {f g : FD} (hT : TIn T) (h : FEq T f g) (S : AS) : ∀ {k : Nat}, k ≤ T.rts.length → askK T f S k = askK T g S k
  | 0, _ => rfl
  | k + 1, hk => by
    show askS T f _ k = askS T g _ k
    rw [askK_eq hT h S (by omega)]
    unfold askS
    rw [askOk_eq hT h hk]
theorem stepS_eq {T : Tab} {f g : FD} (hT : TIn T) (h : FEq T f g) (S : AS) : stepS T f S = stepS T g S := by
  unfold stepS
  rw [goK_eq hT h S (Nat.le_refl _), askK_eq hT h _ (Nat.le_refl _)]
theorem prN_eq {T : Tab} {f g : FD} (hT : TIn T) (h : FEq T f g) (R : Nat → RS) : ∀ {k : Nat}, k ≤ T.rts.length → prN T f R k = prN T g R k
  | 0, _ => rfl
  | k + 1, hk => by
    have e : procB f (T.rts.getD k rt0) (R k) = procB g (T.rts.getD k rt0) (R k) := by
      unfold procB
      rw [all_congr (d := (0 : Int)) (p := fun x => bt f.cl x) (q := fun x => bt g.cl x) (fun i hi => h.cl _ (hT.tr k hk i hi).1 (hT.tr k hk i hi).2),
        all_congr (d := ((0 : Int), false)) (p := fun p => seenB f p) (q := fun p => seenB g p) (fun i hi => by
          have hp := hT.pp k hk i hi
          show (_ && _) = (_ && _)
          rw [h.no _ hp.1 hp.2, h.re _ hp.1 hp.2])]
    simp only [prN]
    rw [e, prN_eq hT h R (by omega)]
theorem orderS_eq {T : Tab} {f g : FD} (hT : TIn T) (h : FEq T f g) (S : AS) : orderS T f S = orderS T g S := by
  unfold orderS
  rw [prN_eq hT h S.R (Nat.le_refl _)]
end Go.Proofs.Ytnjeiigdfdjccaa
