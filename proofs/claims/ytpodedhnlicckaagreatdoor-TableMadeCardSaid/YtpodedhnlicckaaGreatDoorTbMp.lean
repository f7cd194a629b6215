/- Plain: what TableMade wants. -/
import Derived.Test.YtpodedhnlicckaaGreatDoorTabK
namespace Go.Proofs.YtpodedhnlicckaaGreatDoor
open Go.RowKit
set_option linter.unusedVariables false
set_option linter.unusedSimpArgs false
/-- The lists of a relation among the first m. -/
def cOf (m : Nat) (R : Nat → Nat → Bool) (n : Nat) : List Int := ((List.range m).filter (R n)).map fun (k : Nat) => (k : Int)
theorem cOf_mem {m : Nat} {R : Nat → Nat → Bool} {n : Nat} {x : Int} : x ∈ cOf m R n ↔ ∃ k, k < m ∧ R n k = true ∧ x = (k : Int) := by
  unfold cOf
  simp only [List.mem_map, List.mem_filter, List.mem_range]
  constructor
  · rintro ⟨k, ⟨h1, h2⟩, h3⟩; exact ⟨k, h1, h2, h3.symm⟩
  · rintro ⟨k, h1, h2, h3⟩; exact ⟨k, ⟨h1, h2⟩, h3.symm⟩
theorem hasI_mem {l : List Int} {x : Int} : hasI l x = true ↔ x ∈ l := by
  unfold hasI
  rw [List.any_eq_true]
  constructor
  · rintro ⟨y, h1, h2⟩; rw [beq_iff_eq] at h2; rw [← h2]; exact h1
  · intro h; exact ⟨x, h, beq_iff_eq.2 rfl⟩
theorem hasI_not {l : List Int} {x : Int} : hasI l x = false ↔ x ∉ l := by
  rw [← Bool.not_eq_true, hasI_mem]
theorem cOf_up (m : Nat) (R : Nat → Nat → Bool) (n : Nat) : (cOf m R n).Pairwise (· < ·) := by
  unfold cOf
  rw [List.pairwise_map]
  exact (List.pairwise_lt_range.sublist List.filter_sublist).imp (fun h => by omega)
theorem up_getD {l : List Int} (h : l.Pairwise (· < ·)) {i j : Nat} (hij : i < j) (hj : j < l.length) : l.getD i 0 < l.getD j 0 := by
  rw [List.getD_eq_getElem?_getD, List.getD_eq_getElem?_getD, List.getElem?_eq_getElem hj, List.getElem?_eq_getElem (by omega)]
  exact (List.pairwise_iff_getElem.1 h) i j (by omega) hj hij
theorem getD_mem {l : List Int} {i : Nat} (h : i < l.length) : l.getD i 0 ∈ l := by
  rw [List.getD_eq_getElem?_getD, List.getElem?_eq_getElem h]; exact List.getElem_mem h
theorem cOf_within (m : Nat) (R : Nat → Nat → Bool) (n : Nat) : withinI (cOf m R n) m = true := by
  rw [withinI_iff]
  intro i hi
  obtain ⟨k, h1, h2, h3⟩ := cOf_mem.1 (getD_mem hi)
  refine ⟨by omega, by omega, ?_⟩
  refine hasI_no fun j hj => ?_
  rw [List.length_take] at hj
  rw [getD_take (by omega)]
  have := up_getD (cOf_up m R n) (show j < i by omega) hi
  omega
theorem cOf_sorted (m : Nat) (R : Nat → Nat → Bool) (n : Nat) : sortedI (cOf m R n) = true := by
  rw [sortedI_iff]
  intro i h0 hi
  have := up_getD (cOf_up m R n) (show i - 1 < i by omega) hi
  omega
theorem cOf_hasI (m : Nat) (R : Nat → Nat → Bool) (n k : Nat) : hasI (cOf m R n) (k : Int) = (decide (k < m) && R n k) := by
  rw [Bool.eq_iff_iff, hasI_mem, cOf_mem, Bool.and_eq_true, decide_eq_true_iff]
  constructor
  · rintro ⟨q, h1, h2, h3⟩
    obtain rfl : k = q := by omega
    exact ⟨h1, h2⟩
  · rintro ⟨h1, h2⟩; exact ⟨k, h1, h2, rfl⟩
/-- Taking one out. -/
theorem cOf_drop (m : Nat) (R : Nat → Nat → Bool) (n x : Nat) : (cOf m R n).filter (fun y => !(y == (x : Int))) = cOf m (fun a b => R a b && !(b == x)) n := by
  unfold cOf
  rw [List.filter_map, List.filter_filter]
  congr 1
  refine List.filter_congr fun k hk => ?_
  rw [Bool.and_comm]
  congr 1
  simp only [Function.comp]
  congr 1
  rw [Bool.eq_iff_iff, beq_iff_eq, beq_iff_eq]
  omega
/-! ### the conflicts that must be -/
def mustR (T : Tab) (i k : Nat) : Bool := (i != k) && mustB T.pts (T.rts.getD i rt0) (T.rts.getD k rt0)
theorem confL_cOf (T : Tab) (i : Nat) : ∀ k, confL T i k = cOf k (mustR T) i
  | 0 => rfl
  | k + 1 => by
    unfold confL cOf
    rw [List.range_succ, List.filter_append, List.map_append, confL_cOf T i k]
    show (if mustR T i k = true then _ else _) = _
    cases h : mustR T i k with
    | true => simp [cOf, h]
    | false => simp [cOf, h]
theorem any_comm (a b : List Int) : (a.any fun x => b.any fun y => x == y) = (b.any fun x => a.any fun y => x == y) := by
  rw [Bool.eq_iff_iff]
  simp only [List.any_eq_true, beq_iff_eq]
  constructor
  · rintro ⟨x, h1, y, h2, rfl⟩; exact ⟨x, h2, x, h1, rfl⟩
  · rintro ⟨x, h1, y, h2, rfl⟩; exact ⟨x, h2, x, h1, rfl⟩
theorem opp_comm (a b : List (Int × Bool)) : (a.any fun p => b.any fun q => oppB p q) = (b.any fun p => a.any fun q => oppB p q) := by
  have h : ∀ p q, oppB p q = oppB q p := fun p q => by
    unfold oppB
    rw [show (p.1 == q.1) = (q.1 == p.1) by rw [Bool.eq_iff_iff, beq_iff_eq, beq_iff_eq]; exact eq_comm, show (p.2 != q.2) = (q.2 != p.2) by cases p.2 <;> cases q.2 <;> rfl]
  rw [Bool.eq_iff_iff]
  simp only [List.any_eq_true]
  constructor
  · rintro ⟨x, h1, y, h2, h3⟩; exact ⟨y, h2, x, h1, by rw [h]; exact h3⟩
  · rintro ⟨x, h1, y, h2, h3⟩; exact ⟨y, h2, x, h1, by rw [h]; exact h3⟩
theorem mustB_comm (P : List Int) (a b : Rt) : mustB P a b = mustB P b a := by
  unfold mustB
  rw [any_comm a.tr b.tr, opp_comm a.pts b.pts, show (a.sig == b.sig) = (b.sig == a.sig) by rw [Bool.eq_iff_iff, beq_iff_eq, beq_iff_eq]; exact eq_comm]
  generalize (b.sig == a.sig) = x1
  generalize (b.tr.any fun x => a.tr.any fun y => x == y) = x2
  generalize (a.pts.any fun p => b.tr.any fun y => liesB P p y) = x3
  generalize (b.pts.any fun p => a.tr.any fun y => liesB P p y) = x4
  generalize (b.pts.any fun p => a.pts.any fun q => oppB p q) = x5
  cases x1 <;> cases x2 <;> cases x3 <;> cases x4 <;> cases x5 <;> rfl
theorem mustR_comm (T : Tab) (i k : Nat) : mustR T i k = mustR T k i := by
  unfold mustR
  rw [mustB_comm, show (i != k) = (k != i) by rw [Bool.eq_iff_iff, bne_iff_ne, bne_iff_ne]; exact ne_comm]
theorem mustR_irr (T : Tab) (i : Nat) : mustR T i i = false := by unfold mustR; simp
/-! ### a table with other conflicts -/
def withC (T : Tab) (c : Nat → List Int) : Tab := { T with rts := (List.range T.rts.length).map fun i => { T.rts.getD i rt0 with con := c i } }
theorem withC_len (T : Tab) (c : Nat → List Int) : (withC T c).rts.length = T.rts.length := by simp [withC]
theorem withC_get (T : Tab) (c : Nat → List Int) {i : Nat} (h : i < T.rts.length) : (withC T c).rts.getD i rt0 = { T.rts.getD i rt0 with con := c i } := by
  unfold withC
  rw [List.getD_eq_getElem?_getD, List.getElem?_map, List.getElem?_range h]
  rfl
def baseB (T : Tab) (r : Rt) : Bool :=
  !decide (r.sig < 0) && (!decide (T.sigs ≤ r.sig) && (!(r.tr.length == 0) && (withinI r.tr T.tracks && (withinI (ownP r) T.pts.length &&
  (!decide (r.app < -1) && (!decide (T.tracks ≤ r.app) && (!hasI r.tr r.app && inPtsB T r)))))))
theorem withC_base (T : Tab) (c : Nat → List Int) {n : Nat} (h : n < T.rts.length) : routeB (withC T c) n = (baseB T (T.rts.getD n rt0) && (withinI (c n) T.rts.length && (sortedI (c n) && (!hasI (c n) n && !mutB (withC T c) { T.rts.getD n rt0 with con := c n } n)))) := by
  unfold routeB baseB
  rw [withC_get T c h, withC_len]
  simp only [Bool.and_assoc]
  rfl
theorem base_of {T : Tab} {n : Nat} (h : routeB T n = true) : baseB T (T.rts.getD n rt0) = true := by
  unfold routeB at h
  unfold baseB
  simp only [Bool.and_eq_true] at h ⊢
  exact ⟨h.1, h.2.1, h.2.2.1, h.2.2.2.1, h.2.2.2.2.1, h.2.2.2.2.2.1, h.2.2.2.2.2.2.1, h.2.2.2.2.2.2.2.1, h.2.2.2.2.2.2.2.2.1⟩
theorem base_with {T : Tab} {c : Nat → List Int} {n : Nat} (hn : n < T.rts.length) (h : routeB (withC T c) n = true) : baseB T (T.rts.getD n rt0) = true := by
  rw [withC_base T c hn, Bool.and_eq_true] at h
  exact h.1
theorem mut_any (T : Tab) (R : Nat → Nat → Bool) {n : Nat} (hn : n < T.rts.length) : mutB (withC T (cOf T.rts.length R)) { T.rts.getD n rt0 with con := cOf T.rts.length R n } n = true ↔ ∃ k, k < T.rts.length ∧ R n k = true ∧ R k n = false := by
  unfold mutB
  rw [List.any_eq_true]
  constructor
  · rintro ⟨x, h1, h2⟩
    obtain ⟨k, k1, k2, rfl⟩ := cOf_mem.1 h1
    rw [Int.toNat_natCast, withC_get T _ k1] at h2
    simp only [Bool.not_eq_true'] at h2
    rw [cOf_hasI] at h2
    refine ⟨k, k1, k2, ?_⟩
    simpa [hn] using h2
  · rintro ⟨k, k1, k2, k3⟩
    refine ⟨(k : Int), cOf_mem.2 ⟨k, k1, k2, rfl⟩, ?_⟩
    rw [Int.toNat_natCast, withC_get T _ k1]
    simp only [Bool.not_eq_true']
    rw [cOf_hasI, k3, Bool.and_false]
theorem route_good {T : Tab} {R : Nat → Nat → Bool} {n : Nat} (hn : n < T.rts.length) (hb : baseB T (T.rts.getD n rt0) = true) (hi : R n n = false) (hs : ∀ k, k < T.rts.length → R n k = true → R k n = true) : routeB (withC T (cOf T.rts.length R)) n = true := by
  have hm : mutB (withC T (cOf T.rts.length R)) { T.rts.getD n rt0 with con := cOf T.rts.length R n } n = false := by
    rw [← Bool.not_eq_true, mut_any T R hn]
    rintro ⟨k, k1, k2, k3⟩
    rw [hs k k1 k2] at k3; cases k3
  rw [withC_base T _ hn, hb, cOf_within, cOf_sorted, cOf_hasI, hi, hm]
  simp
theorem route_bad {T : Tab} {R : Nat → Nat → Bool} {n k : Nat} (hn : n < T.rts.length) (hk : k < T.rts.length) (h1 : R n k = true) (h2 : R k n = false) : routeB (withC T (cOf T.rts.length R)) n = false := by
  rw [withC_base T _ hn, (mut_any T R hn).2 ⟨k, hk, h1, h2⟩]
  simp
theorem sizes_with (T : Tab) (c : Nat → List Int) : sizesB (withC T c) = sizesB T := by unfold sizesB; rw [withC_len]; rfl
theorem pts_with (T : Tab) (c : Nat → List Int) : ptsB (withC T c) = ptsB T := rfl
theorem must_with (T : Tab) (c : Nat → List Int) {i k : Nat} (hi : i < T.rts.length) (hk : k < T.rts.length) : mustR (withC T c) i k = mustR T i k := by
  unfold mustR
  rw [withC_get T c hi, withC_get T c hk]
  rfl
theorem conf_with (T : Tab) (c : Nat → List Int) {i : Nat} (hi : i < T.rts.length) : ∀ k, k ≤ T.rts.length → confL (withC T c) i k = confL T i k
  | 0, _ => rfl
  | k + 1, h => by
    unfold confL
    rw [conf_with T c hi k (by omega)]
    show (if mustR (withC T c) i k = true then _ else _) = (if mustR T i k = true then _ else _)
    rw [must_with T c hi (by omega)]
theorem decl_iff (T : Tab) (R : Nat → Nat → Bool) {n : Nat} (hn : n < T.rts.length) : declB (withC T (cOf T.rts.length R)) n = true ↔ ∀ k, k < T.rts.length → mustR T n k = true → R n k = true := by
  unfold declB
  rw [withC_len, conf_with T _ hn _ (Nat.le_refl _), confL_cOf, Bool.not_eq_true', ← Bool.not_eq_true, List.any_eq_true]
  have hm : ∀ k : Nat, missB (withC T (cOf T.rts.length R)) n (k : Int) = !(decide (k < T.rts.length) && R n k) := fun k => by
    unfold missB
    rw [withC_get T _ hn, ← cOf_hasI]
  constructor
  · intro h k hk hmu
    cases hr : R n k with
    | true => rfl
    | false => exact absurd ⟨(k : Int), cOf_mem.2 ⟨k, hk, hmu, rfl⟩, by rw [hm, hr]; simp⟩ h
  · rintro h ⟨x, h1, h2⟩
    obtain ⟨k, k1, k2, rfl⟩ := cOf_mem.1 h1
    rw [hm, h k k1 k2] at h2
    simp [k1] at h2
structure Sound (T : Tab) : Prop where
  sizes : sizesB T = true
  pts : ptsB T = true
  base : ∀ n, n < T.rts.length → baseB T (T.rts.getD n rt0) = true
theorem check_zero {T : Tab} (h : checkE T ≠ 260) : sizesB T = true ∧ ptsB T = true ∧ ∀ n, n < T.rts.length → routeB T n = true := by
  unfold checkE at h
  by_cases e : (sizesB T && (ptsB T && routesB T)) = false
  · rw [if_pos e] at h; exact absurd rfl h
  · have e : (sizesB T && (ptsB T && routesB T)) = true := by simpa using e
    simp only [Bool.and_eq_true] at e
    exact ⟨e.1, e.2.1, routesB_iff.1 e.2.2⟩
theorem sound_of {T : Tab} (h : checkE T ≠ 260) : Sound T := by
  obtain ⟨h1, h2, h3⟩ := check_zero h
  exact ⟨h1, h2, fun n hn => base_of (h3 n hn)⟩
theorem sound_with {T : Tab} {c : Nat → List Int} (h : checkE (withC T c) ≠ 260) : Sound T := by
  obtain ⟨h1, h2, h3⟩ := check_zero h
  rw [sizes_with] at h1
  exact ⟨h1, h2, fun n hn => base_with hn (h3 n (by rw [withC_len]; exact hn))⟩
theorem check_with {T : Tab} {R : Nat → Nat → Bool} (hs : Sound T) : checkE (withC T (cOf T.rts.length R)) = if routesB (withC T (cOf T.rts.length R)) = false then 260 else if declsB (withC T (cOf T.rts.length R)) = false then 261 else 0 := by
  unfold checkE
  rw [sizes_with, pts_with, hs.sizes, hs.pts, Bool.true_and, Bool.true_and]
theorem routes_good {T : Tab} {R : Nat → Nat → Bool} (hs : Sound T) (hi : ∀ n, R n n = false) (hsy : ∀ n k, R n k = true → R k n = true) : routesB (withC T (cOf T.rts.length R)) = true := by
  rw [routesB_iff, withC_len]
  exact fun n hn => route_good hn (hs.base n hn) (hi n) (fun k _ h => hsy n k h)
/-- All that must conflict declared: it may be. -/
theorem made_ok {T : Tab} (hs : Sound T) : checkE (withC T (cOf T.rts.length (mustR T))) = 0 := by
  rw [check_with hs, routes_good hs (mustR_irr T) (fun n k h => by rw [mustR_comm]; exact h), if_neg (by decide)]
  rw [show declsB (withC T (cOf T.rts.length (mustR T))) = true by rw [declsB_iff, withC_len]; exact fun n hn => (decl_iff T _ hn).2 fun k _ h => h, if_neg (by decide)]
def dropR (R : Nat → Nat → Bool) (x y a b : Nat) : Bool := R a b && !(a == x && b == y)
theorem dropR_hit (R : Nat → Nat → Bool) (x y : Nat) : dropR R x y x y = false := by unfold dropR; simp
theorem dropR_miss (R : Nat → Nat → Bool) {x y a b : Nat} (h : a ≠ x ∨ b ≠ y) : dropR R x y a b = R a b := by
  unfold dropR
  have : (a == x && b == y) = false := by
    rw [← Bool.not_eq_true, Bool.and_eq_true, beq_iff_eq, beq_iff_eq]; omega
  rw [this]; simp
/-- One taken out of one list alone. -/
theorem made_one {T : Tab} {x y : Nat} (hs : Sound T) (hx : x < T.rts.length) (hy : y < T.rts.length) (h : mustR T x y = true) : checkE (withC T (cOf T.rts.length (dropR (mustR T) x y))) = 260 := by
  have hne : x ≠ y := by rintro rfl; rw [mustR_irr] at h; cases h
  have hr : routesB (withC T (cOf T.rts.length (dropR (mustR T) x y))) = false :=
    routesB_no (n := y) (by rw [withC_len]; exact hy) (route_bad hy hx (by rw [dropR_miss _ (.inl (Ne.symm hne)), mustR_comm]; exact h) (dropR_hit _ _ _))
  rw [check_with hs, hr, if_pos rfl]
/-- .. out of both. -/
theorem made_two {T : Tab} {x y : Nat} (hs : Sound T) (hx : x < T.rts.length) (hy : y < T.rts.length) (h : mustR T x y = true) : checkE (withC T (cOf T.rts.length (dropR (dropR (mustR T) x y) y x))) = 261 := by
  have hne : x ≠ y := by rintro rfl; rw [mustR_irr] at h; cases h
  have hsy : ∀ n k, dropR (dropR (mustR T) x y) y x n k = dropR (dropR (mustR T) x y) y x k n := fun n k => by
    unfold dropR
    rw [mustR_comm T n k]
    cases mustR T k n <;> cases n == x <;> cases k == y <;> cases n == y <;> cases k == x <;> rfl
  rw [check_with hs, routes_good hs (fun n => by unfold dropR; rw [mustR_irr]; rfl) (fun n k h => by rw [hsy]; exact h), if_neg (by decide)]
  have hd : declB (withC T (cOf T.rts.length (dropR (dropR (mustR T) x y) y x))) x = false := by
    rw [← Bool.not_eq_true, decl_iff T _ hx]
    intro hh
    have := hh y hy h
    rw [dropR_miss _ (.inl hne), dropR_hit] at this
    cases this
  rw [declsB_no (n := x) (by rw [withC_len]; exact hx) hd, if_pos rfl]
theorem cOf_drop2 (m : Nat) (R : Nat → Nat → Bool) (x y n : Nat) : (if n = x then (cOf m R x).filter (fun z => !(z == (y : Int))) else cOf m R n) = cOf m (dropR R x y) n := by
  by_cases h : n = x
  · subst h
    rw [if_pos rfl, cOf_drop]
    unfold cOf dropR
    congr 1
    exact List.filter_congr fun k _ => by simp
  · rw [if_neg h]
    unfold cOf
    congr 1
    exact List.filter_congr fun k _ => by rw [dropR_miss _ (.inl h)]
end Go.Proofs.YtpodedhnlicckaaGreatDoor
