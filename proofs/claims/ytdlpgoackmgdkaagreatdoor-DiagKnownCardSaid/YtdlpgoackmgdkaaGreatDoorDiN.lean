/- Plain: behind any frames a log tells the newest changes. -/
import Derived.Test.YtdlpgoackmgdkaaGreatDoorDiM
namespace Go.Proofs.YtdlpgoackmgdkaaGreatDoor
open Go.RowKit Go.Shelf
set_option linter.unusedVariables false
def chOne (was f : Nat → Nat) (i n : Nat) : List (Nat × Nat) := if was i = f n then [] else [(i, f n)]
def chF (was f : Nat → Nat) : Nat → List Nat → List (Nat × Nat)
  | _, [] => []
  | i, n :: r => chOne was f i n ++ chF was f (i + 1) r
def wasK (ins : List Nat) (F : Nat → Nat → Nat) : Nat → Nat → Nat
  | 0 => fun _ => 0
  | k + 1 => fun i => F k (ins.getD i 0)
def allC (ins : List Nat) (F : Nat → Nat → Nat) : Nat → List (Nat × Nat)
  | 0 => []
  | k + 1 => allC ins F k ++ chF (wasK ins F k) (F k) 0 ins
theorem chOne_len (was f : Nat → Nat) (i n : Nat) : (chOne was f i n).length ≤ 1 := by unfold chOne; split <;> simp
theorem chF_len (was f : Nat → Nat) : ∀ (l : List Nat) (i : Nat), (chF was f i l).length ≤ l.length
  | [], i => by simp [chF]
  | n :: r, i => by
    have h1 := chOne_len was f i n
    have h2 := chF_len was f r (i + 1)
    rw [chF, List.length_append, List.length_cons]; omega
theorem allC_len (ins : List Nat) (F : Nat → Nat → Nat) : ∀ k, (allC ins F k).length ≤ ins.length * k
  | 0 => by simp [allC]
  | k + 1 => by
    have h1 := allC_len ins F k
    have h2 := chF_len (wasK ins F k) (F k) ins 0
    rw [allC, List.length_append, Nat.mul_succ]; omega
structure LInv (g : LG) (d : Nat → Nat) (L : List (Nat × Nat)) (was : Nat → Nat) : Prop where
  cnt : wordD d 0 = L.length
  was : ∀ j, j < g.m → wordD d (4 + 4 * j) = was j
  ent : ∀ p, p < L.length → L.length ≤ p + g.size → chQ g.m g.size d p = L.getD p (0, 0)
  idx : ∀ x ∈ L, x.1 < g.m
theorem mod_ne {p n s : Nat} (h : p < n) (h2 : n < p + s) : p % s ≠ n % s := fun e => by
  have h3 := Nat.sub_mod_eq_zero_of_mod_eq e.symm
  have h4 := Nat.le_of_dvd (by omega) (Nat.dvd_of_mod_eq_zero h3)
  omega
theorem step_inv {g : LG} {d : Nat → Nat} {L : List (Nat × Nat)} {was : Nat → Nat} {i now wi : Nat} (h : LInv g d L was) (hwi : was i = wi) (hi : i < g.m) (hs : 1 ≤ g.size) (hm : g.m ≤ 16) (hL : L.length + 1 < 4294967296) (hn : now < 4294967296) :
    LInv g (g.step i now d) (L ++ if wi = now then [] else [(i, now)]) (fun j => if j = i then now else was j) := by
  subst hwi
  unfold LG.step
  rw [h.was i hi]
  by_cases hw : was i = now
  · rw [if_pos hw, if_pos hw, List.append_nil]
    refine ⟨h.cnt, fun j hj => ?_, h.ent, h.idx⟩
    rw [h.was j hj]
    split
    · next e => rw [e, hw]
    · rfl
  rw [if_neg hw, if_neg hw]
  have hat : g.at d = 4 + 4 * g.m + 8 * (L.length % g.size) := by unfold LG.at; rw [h.cnt]
  rw [hat, h.cnt]
  have hc : (L.length + 1) % 4294967296 = L.length + 1 := Nat.mod_eq_of_lt hL
  rw [hc]
  refine ⟨?_, fun j hj => ?_, fun p hp hp2 => ?_, fun x hx => ?_⟩
  · rw [word_put_other _ (by omega), word_put _ _ _ hL, List.length_append]; rfl
  · by_cases e : j = i
    · subst e; rw [word_put _ _ _ hn, if_pos rfl]
    · rw [word_put_other _ (by omega), word_put_other _ (by omega), word_put_other _ (by omega), word_put_other _ (by omega), h.was j hj, if_neg e]
  · rw [List.length_append] at hp hp2
    have hl1 : [(i, now)].length = 1 := rfl
    rw [hl1] at hp hp2
    unfold chQ
    by_cases e : p = L.length
    · subst e
      have e1 : (L ++ [(i, now)]).getD L.length (0, 0) = (i, now) := by simp [List.getD]
      rw [e1]
      refine Prod.ext ?_ ?_
      · show wordD _ _ = i
        rw [word_put_other _ (by omega), word_put_other _ (by omega), word_put_other _ (by omega), word_put _ _ _ (by omega)]
      · show wordD _ _ = now
        rw [word_put_other _ (by omega), word_put_other _ (by omega), word_put _ _ _ hn]
    · have hpl : p < L.length := by omega
      have hne := mod_ne hpl (s := g.size) (by omega)
      have e1 : (L ++ [(i, now)]).getD p (0, 0) = L.getD p (0, 0) := by
        rw [List.getD_eq_getElem?_getD, List.getElem?_append_left hpl, ← List.getD_eq_getElem?_getD]
      rw [e1, ← h.ent p hpl (by omega)]
      unfold chQ
      generalize p % g.size = a at *
      generalize L.length % g.size = b at *
      rw [word_put_other _ (by omega), word_put_other _ (by omega), word_put_other _ (by omega), word_put_other _ (by omega), word_put_other _ (by omega), word_put_other _ (by omega), word_put_other _ (by omega), word_put_other _ (by omega)]
  · rcases List.mem_append.1 hx with h1 | h1
    · exact h.idx x h1
    · rw [List.mem_singleton.1 h1]; exact hi
theorem steps_inv {g : LG} (hs : 1 ≤ g.size) (hm : g.m ≤ 16) (f was : Nat → Nat) (hf : ∀ j, f j < 4294967296) : ∀ (l : List Nat) (i : Nat) (d : Nat → Nat) (L : List (Nat × Nat)), LInv g d L (fun j => if j < i then f (g.ins.getD j 0) else was j) → (∀ k, k < l.length → g.ins.getD (i + k) 0 = l.getD k 0) → i + l.length = g.m → L.length + l.length < 4294967295 →
    LInv g (g.steps f i l d) (L ++ chF was f i l) (fun j => if j < g.m then f (g.ins.getD j 0) else was j)
  | [], i, d, L, h, hl, he, hL => by
    rw [LG.steps_nil, chF, List.append_nil]
    have : i = g.m := he
    rw [← this]; exact h
  | n :: r, i, d, L, h, hl, he, hL => by
    rw [List.length_cons] at he hL hl
    have hn : g.ins.getD i 0 = n := hl 0 (by omega)
    have h1 := step_inv h (i := i) (now := f n) (wi := was i) (if_neg (by omega)) (by omega) hs hm (by omega) (hf n)
    have h3 := chOne_len was f i n
    rw [LG.steps_cons, chF, ← List.append_assoc]
    refine steps_inv hs hm f was hf r (i + 1) _ _ ?_ (fun k hk => ?_) (by omega) (by rw [List.length_append]; omega)
    · have e : (fun j => if j = i then f n else if j < i then f (g.ins.getD j 0) else was j) = (fun j => if j < i + 1 then f (g.ins.getD j 0) else was j) := by
        funext j
        by_cases e : j = i
        · subst e; rw [if_pos rfl, if_pos (by omega), hn]
        · rw [if_neg e]
          by_cases e2 : j < i
          · rw [if_pos e2, if_pos (by omega)]
          · rw [if_neg e2, if_neg (by omega)]
      rw [e] at h1
      exact h1
    · have := hl (k + 1) (by omega)
      rw [show i + 1 + k = i + (k + 1) by omega, this]; rfl
theorem LInv.congr {g : LG} {d : Nat → Nat} {L : List (Nat × Nat)} {was was' : Nat → Nat} (h : LInv g d L was) (e : ∀ j, j < g.m → was j = was' j) : LInv g d L was' := ⟨h.cnt, fun j hj => (h.was j hj).trans (e j hj), h.ent, h.idx⟩
theorem run_inv {g : LG} (hg : g.Ok) (F : Nat → Nat → Nat) (hF : ∀ i j, F i j < 4294967296) : ∀ k, k ≤ 200 → LInv g (g.runD F k) (allC g.ins F k) (wasK g.ins F k)
  | 0, _ => by
    rw [LG.runD_zero, allC]
    exact ⟨by show wordD _ _ = 0; simp [wordD], fun j hj => by show wordD _ _ = 0; simp [wordD], fun p hp => absurd hp (by simp), fun x hx => by cases hx⟩
  | k + 1, hk => by
    have h := run_inv hg F hF k (by omega)
    have hm := hg.m16
    have hlen := allC_len g.ins F k
    have h2 : g.ins.length * k ≤ 16 * 200 := Nat.mul_le_mul hm (by omega)
    have hmm : g.m = g.ins.length := rfl
    rw [LG.runD_succ, allC]
    unfold LG.frame
    refine (steps_inv hg.s1 hm (F k) (wasK g.ins F k) (hF k) g.ins 0 _ _ (h.congr fun j hj => ?_) (fun j _ => by rw [Nat.zero_add]) (by rw [hmm]; omega) (by omega)).congr fun j hj => ?_
    · rw [if_neg (by omega)]
    · rw [if_pos hj]; rfl
/-- The newest changes are what is told. -/
theorem run_tells {g : LG} (hg : g.Ok) (F : Nat → Nat → Nat) (hF : ∀ i j, F i j < 4294967296) {k : Nat} (hk : k ≤ 200) :
    wordD (g.runD F k) 0 = (allC g.ins F k).length ∧ kOf g.size (g.runD F k) = min (allC g.ins F k).length g.size ∧ chs g.m g.size (g.runD F k) = (allC g.ins F k).drop ((allC g.ins F k).length - g.size) ∧ chsOk g.m g.size (g.runD F k) = true := by
  have h := run_inv hg F hF k hk
  have h0 := h.cnt
  have hk0 : kOf g.size (g.runD F k) = min (allC g.ins F k).length g.size := by unfold kOf; rw [h0]
  have hch : chs g.m g.size (g.runD F k) = (allC g.ins F k).drop ((allC g.ins F k).length - g.size) := by
    refine List.ext_getElem (by rw [chs_len, hk0, List.length_drop]; omega) fun t h1 h2 => ?_
    rw [chs_len] at h1
    have h3 := chs_get (m := g.m) h1
    rw [List.getElem?_eq_getElem (by rw [chs_len]; exact h1)] at h3
    rw [Option.some.inj h3, List.getElem_drop, h0, hk0]
    rw [hk0] at h1
    rw [h.ent _ (by omega) (by omega), List.getD_eq_getElem?_getD, List.getElem?_eq_getElem (by omega)]
    show _ = _
    simp only [Option.getD_some]
    congr 1; omega
  refine ⟨h0, hk0, hch, ?_⟩
  unfold chsOk
  rw [hch, List.all_eq_true]
  intro x hx
  exact decide_eq_true (h.idx x (List.mem_of_mem_drop hx))
end Go.Proofs.YtdlpgoackmgdkaaGreatDoor
