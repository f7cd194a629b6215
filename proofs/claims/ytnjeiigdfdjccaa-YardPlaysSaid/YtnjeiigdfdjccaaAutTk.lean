/- A table that may be: what follows. -/
import Derived.Test.YtnjeiigdfdjccaaAutNw
namespace Go.Proofs.Ytnjeiigdfdjccaa
open Go.RowKit
set_option linter.unusedVariables false
set_option linter.unusedSimpArgs false
theorem pigeon : ∀ (n : Nat) (l : List Int), (∀ x ∈ l, 0 ≤ x ∧ x < (n : Int)) → l.Nodup → l.length ≤ n
  | 0, l, h, _ => by
    cases l with
    | nil => exact Nat.le_refl _
    | cons x l => have := h x (List.mem_cons_self ..); omega
  | n + 1, l, h, hd => by
    have h1 := pigeon n (l.erase (n : Int)) (fun x hx => by
      have hm := (hd.mem_erase_iff).1 hx
      have := h x hm.2
      have := hm.1
      omega) (hd.erase _)
    by_cases hm : (n : Int) ∈ l
    · rw [List.length_erase_of_mem hm] at h1; omega
    · rw [List.erase_of_not_mem hm] at h1; omega
theorem withinI_nodup {l : List Int} {n : Int} (h : withinI l n = true) : l.Nodup := by
  rw [List.nodup_iff_pairwise_ne, List.pairwise_iff_getElem]
  intro i j hi hj hij e
  have := (withinI_iff.1 h j hj).2.2
  have h2 : hasI (l.take j) (l.getD j 0) = true := hasI_iff.2 ⟨i, by simp; omega, by
    rw [getD_take hij, List.getD_eq_getElem?_getD, List.getElem?_eq_getElem hi, List.getD_eq_getElem?_getD, List.getElem?_eq_getElem hj]
    exact e⟩
  rw [h2] at this; cases this
theorem mem_getD {l : List Int} {x : Int} (h : x ∈ l) : ∃ j, j < l.length ∧ l.getD j 0 = x := by
  obtain ⟨j, hj, e⟩ := List.mem_iff_getElem.1 h
  exact ⟨j, hj, by rw [List.getD_eq_getElem?_getD, List.getElem?_eq_getElem hj]; exact e⟩
theorem withinI_len {l : List Int} {n : Nat} (h : withinI l (n : Int) = true) : l.length ≤ n :=
  pigeon n l (fun x hx => by obtain ⟨j, hj, rfl⟩ := mem_getD hx; have := withinI_iff.1 h j hj; exact ⟨this.1, this.2.1⟩) (withinI_nodup h)
/-- What Check says, part by part. -/
structure CkOk (T : Tab) : Prop where
  t1 : 1 ≤ T.tracks
  t2 : T.tracks ≤ 24
  p : T.pts.length ≤ 12
  s1 : 1 ≤ T.sigs
  s2 : T.sigs ≤ 12
  n1 : 1 ≤ T.rts.length
  n2 : T.rts.length ≤ 16
  pt : ∀ i, i < T.pts.length → 0 ≤ T.pts.getD i 0 ∧ T.pts.getD i 0 < T.tracks
  rt : ∀ n, n < T.rts.length → routeB T n = true
  dc : ∀ n, n < T.rts.length → declB T n = true
theorem ckOk {T : Tab} (h : checkE T = 0) : CkOk T := by
  unfold checkE at h
  split at h
  · cases h
  · rename_i h1
    split at h
    · cases h
    · rename_i h2
      rw [Bool.not_eq_false] at h1 h2
      simp only [Bool.and_eq_true] at h1
      obtain ⟨hs, hp, hr⟩ := h1
      unfold sizesB at hs
      simp only [Bool.and_eq_true, Bool.not_eq_true', decide_eq_false_iff_not] at hs
      obtain ⟨a1, a2, a3, a4, a5, a6, a7⟩ := hs
      refine ⟨by omega, by omega, by omega, by omega, by omega, by omega, by omega, fun i hi => ?_, fun n hn => routesB_iff.1 hr n hn, fun n hn => declsB_iff.1 h2 n hn⟩
      unfold ptsB at hp
      rw [Bool.not_eq_true', List.any_eq_false] at hp
      have := hp (T.pts.getD i 0) (by rw [List.getD_eq_getElem?_getD, List.getElem?_eq_getElem hi]; exact List.getElem_mem hi)
      unfold outB at this
      simp only [Bool.or_eq_true, decide_eq_true_eq, not_or] at this
      exact ⟨by omega, by omega⟩
/-- Of a route that may be. -/
structure RtOk (T : Tab) (n : Nat) : Prop where
  s0 : 0 ≤ (T.rts.getD n rt0).sig
  s1 : (T.rts.getD n rt0).sig < T.sigs
  t0 : (T.rts.getD n rt0).tr.length ≠ 0
  tw : withinI (T.rts.getD n rt0).tr T.tracks = true
  pw : withinI (ownP (T.rts.getD n rt0)) T.pts.length = true
  a0 : -1 ≤ (T.rts.getD n rt0).app
  a1 : (T.rts.getD n rt0).app < T.tracks
  a2 : hasI (T.rts.getD n rt0).tr (T.rts.getD n rt0).app = false
  ip : inPtsB T (T.rts.getD n rt0) = true
  cw : withinI (T.rts.getD n rt0).con T.rts.length = true
  cs : sortedI (T.rts.getD n rt0).con = true
  ci : hasI (T.rts.getD n rt0).con n = false
  cm : mutB T (T.rts.getD n rt0) n = false
theorem rtOk {T : Tab} {n : Nat} (h : routeB T n = true) : RtOk T n := by
  unfold routeB at h
  simp only [Bool.and_eq_true, Bool.not_eq_true', decide_eq_false_iff_not, beq_eq_false_iff_ne, ne_eq] at h
  obtain ⟨b1, b2, b3, b4, b5, b6, b7, b8, b9, b10, b11, b12, b13⟩ := h
  exact ⟨by omega, by omega, b3, b4, b5, by omega, by omega, b8, b9, b10, b11, b12, b13⟩
theorem tok_of {T : Tab} (h : checkE T = 0) (hh : ∀ n, n < T.rts.length → (T.rts.getD n rt0).hold < 65536) : TOk T ∧ 0 < T.rts.length := by
  have c := ckOk h
  refine ⟨⟨c.n2, c.p, fun i hi => ?_, fun n hn => ?_, fun n hn i hi => ?_, fun n hn => ?_, fun n hn => ?_, fun n hn => ?_, fun n hn i hi => ?_, fun n hn => ?_, fun n hn i hi => ?_, hh⟩, c.n1⟩
  · have := c.pt i hi; have := c.t2; omega
  · have r := rtOk (c.rt n hn)
    obtain ⟨t, ht⟩ := Int.eq_ofNat_of_zero_le (show 0 ≤ T.tracks by have := c.t1; omega)
    have := r.tw
    rw [ht] at this
    have := withinI_len this
    have := r.t0
    have := c.t2
    omega
  · have := withinI_iff.1 (rtOk (c.rt n hn)).tw i hi
    have := c.t2
    omega
  · have r := rtOk (c.rt n hn); have := r.s0; have := r.s1; have := c.s2; omega
  · have r := rtOk (c.rt n hn); have := r.a0; have := r.a1; have := c.t2; omega
  · have := withinI_len (rtOk (c.rt n hn)).pw
    rw [ownP_len] at this
    have := c.p
    omega
  · have := withinI_iff.1 (rtOk (c.rt n hn)).pw i (by rw [ownP_len]; exact hi)
    rw [ownP_get _ hi] at this
    exact ⟨this.1, this.2.1⟩
  · have := withinI_len (rtOk (c.rt n hn)).cw
    have := c.n2
    omega
  · have := withinI_iff.1 (rtOk (c.rt n hn)).cw i hi
    exact ⟨this.1, this.2.1⟩
end Go.Proofs.Ytnjeiigdfdjccaa
