/- The document's automaton: a train comes, and goes on. -/
import Derived.Test.YtlfcmedhadfheaaRgA
import Derived.Deep.OwnRows
namespace Go.Proofs.Ytlfcmedhadfheaa
open Go.RowKit
set_option linter.unusedVariables false
set_option linter.unusedSimpArgs false
def bitsV (x i : Nat) : Value := .bool (x.testBit i)
theorem infoB : (Try.prog.info? 4).map (fun i => (i.zero, i.size, i.bytes)) = some (some (.bool false), 1, 1) := by kernel_rfl
/-- What lies while a train goes on. -/
structure TrW (w0 w1 wr : World) (fb rb ub lb : Nat) (FV : Array Value) (V : Nat → Value) (m L us rl : Nat) : Prop where
  f : wr.heap[fb]? = some (.cells FV 38 (0, 0))
  r : RowAt wr rb 61 m V
  u : RowAt wr ub 4 L (bitsV us)
  l : RowAt wr lb 4 L (bitsV rl)
  bel : Below w0.heap.size w0 wr
  only : Only (fun b => b = rb ∨ b = ub ∨ b = lb) w1 wr
theorem TrW.below {w0 w1 wr wv : World} {fb rb ub lb : Nat} {FV : Array Value} {V : Nat → Value} {m L us rl : Nat} (h : TrW w0 w1 wr fb rb ub lb FV V m L us rl) (hb : Below wr.heap.size wr wv) : TrW w0 w1 wv fb rb ub lb FV V m L us rl :=
  ⟨tb_kept h.f hb, h.r.same (hb.block _ h.r.lt), h.u.same (hb.block _ h.u.lt), h.l.same (hb.block _ h.l.lt), h.bel.trans (hb.mono h.bel.size), h.only.trans (Only.of_below _ hb)⟩
/-- The blocks lie apart. -/
structure TrA (w0 : World) (fb rb ub lb : Nat) : Prop where
  fr : fb ≠ rb
  fu : fb ≠ ub
  fl : fb ≠ lb
  ru : rb ≠ ub
  rl : rb ≠ lb
  ul : ub ≠ lb
  r0 : w0.heap.size ≤ rb
  u0 : w0.heap.size ≤ ub
  l0 : w0.heap.size ≤ lb
theorem below_set {n : Nat} {a w : World} (h : Below n a w) {g : Nat} (o : Nat) (v : Value) (hg : n ≤ g) : Below n a (w.setCell ⟨g, o, none⟩ v) :=
  ⟨h.os, h.tape, h.output, by simpa [World.setCell] using h.size, fun i hi => (heap_setCell_other _ _ _ _ (show i ≠ g by omega)).trans (h.block i hi)⟩
theorem TrW.setU {w0 w1 wr : World} {fb rb ub lb : Nat} {FV : Array Value} {V : Nat → Value} {m L us rl : Nat} (h : TrW w0 w1 wr fb rb ub lb FV V m L us rl) (ha : TrA w0 fb rb ub lb) {k us' : Nat} (v : Bool) (he : ∀ j, j < L → us'.testBit j = if j = k then v else us.testBit j) :
    TrW w0 w1 (wr.setCell ⟨ub, k, none⟩ (.bool v)) fb rb ub lb FV V m L us' rl :=
  ⟨(heap_setCell_other _ _ _ _ ha.fu).trans h.f, h.r.other ha.ru _, (h.u.set (i := k) (.bool v)).congr fun j hj => by
    show (if j = k then _ else bitsV us j) = Value.bool (us'.testBit j)
    rw [he j hj]
    split <;> rfl, h.l.other (Ne.symm ha.ul) _, below_set h.bel _ _ ha.u0, h.only.set _ _ (.inr (.inr (.inl rfl)))⟩
theorem TrW.setL {w0 w1 wr : World} {fb rb ub lb : Nat} {FV : Array Value} {V : Nat → Value} {m L us rl : Nat} (h : TrW w0 w1 wr fb rb ub lb FV V m L us rl) (ha : TrA w0 fb rb ub lb) {k rl' : Nat} (v : Bool) (he : ∀ j, j < L → rl'.testBit j = if j = k then v else rl.testBit j) :
    TrW w0 w1 (wr.setCell ⟨lb, k, none⟩ (.bool v)) fb rb ub lb FV V m L us rl' :=
  ⟨(heap_setCell_other _ _ _ _ ha.fl).trans h.f, h.r.other ha.rl _, h.u.other ha.ul _, (h.l.set (i := k) (.bool v)).congr fun j hj => by
    show (if j = k then _ else bitsV rl j) = Value.bool (rl'.testBit j)
    rw [he j hj]
    split <;> rfl, below_set h.bel _ _ ha.l0, h.only.set _ _ (.inr (.inr (.inr rfl)))⟩
theorem usedN_bit (f : FD) (l : List Int) (u k : Nat) (j : Nat) : (usedN f l u (k + 1)).testBit j = if j = k then ((usedN f l u k).testBit k || !bt f.cl (l.getD k 0)) else (usedN f l u k).testBit j := by
  show (if bt f.cl (l.getD k 0) then usedN f l u k else usedN f l u k ||| 2 ^ k).testBit j = _
  cases bt f.cl (l.getD k 0)
  · rw [if_neg (by decide), Nat.testBit_or, Nat.testBit_two_pow]
    by_cases e : j = k
    · subst e; simp
    · rw [if_neg e]
      have : decide (k = j) = false := by simp; omega
      rw [this, Bool.or_false]
  · rw [if_pos rfl]
    by_cases e : j = k
    · subst e; simp
    · rw [if_neg e]
/-- A section is released in this frame. -/
def relB (f : FD) (l : List Int) (us x k : Nat) : Bool := (k == 0 || x.testBit (k - 1)) && us.testBit k && bt f.cl (l.getD k 0) && (k + 1 == l.length || us.testBit (k + 1))
theorem relN_bit (f : FD) (l : List Int) (us x k : Nat) (j : Nat) : (relN f l us x (k + 1)).testBit j = if j = k then ((relN f l us x k).testBit k || relB f l us (relN f l us x k) k) else (relN f l us x k).testBit j := by
  have e0 : relN f l us x (k + 1) = if relB f l us (relN f l us x k) k then relN f l us x k ||| 2 ^ k else relN f l us x k := rfl
  rw [e0]
  cases relB f l us (relN f l us x k) k
  · rw [if_neg (by decide)]
    by_cases e : j = k
    · subst e; simp
    · rw [if_neg e]
  · rw [if_pos rfl, Nat.testBit_or, Nat.testBit_two_pow]
    by_cases e : j = k
    · subst e; simp
    · rw [if_neg e]
      have : decide (k = j) = false := by simp; omega
      rw [this, Bool.or_false]
theorem full_iff {x L : Nat} (h : x < 2 ^ L) : x = 2 ^ L - 1 ↔ ∀ j, j < L → x.testBit j = true := by
  constructor
  · rintro rfl j hj
    rw [Nat.testBit_two_pow_sub_one]; simpa using hj
  · intro hx
    apply Nat.eq_of_testBit_eq
    intro j
    rw [Nat.testBit_two_pow_sub_one]
    by_cases hj : j < L
    · rw [hx j hj]; simp [hj]
    · rw [Nat.testBit_lt_two_pow (Nat.lt_of_lt_of_le h (Nat.pow_le_pow_right (by omega) (by omega)))]
      simp [hj]
theorem usedN_lt2 (f : FD) (l : List Int) {u L : Nat} (h : u < 2 ^ L) : ∀ k, k ≤ L → usedN f l u k < 2 ^ L
  | 0, _ => h
  | k + 1, hk => by
    have ih := usedN_lt2 f l h k (by omega)
    show (if bt f.cl (l.getD k 0) then _ else _) < _
    split
    · exact ih
    · exact Nat.or_lt_two_pow ih (Nat.pow_lt_pow_right (by omega) (by omega))
theorem relN_lt2 (f : FD) (l : List Int) {us x L : Nat} (h : x < 2 ^ L) : ∀ k, k ≤ L → relN f l us x k < 2 ^ L
  | 0, _ => h
  | k + 1, hk => by
    have ih := relN_lt2 f l (us := us) h k (by omega)
    simp only [relN]
    split
    · exact Nat.or_lt_two_pow ih (Nat.pow_lt_pow_right (by omega) (by omega))
    · exact ih
set_option maxRecDepth 100000 in
set_option maxHeartbeats 8000000 in
theorem rtrain_any (f : FD) (l : List Int) (V : Nat → Value) (m n L us rl rb ub lb : Nat) (vl : Value) (w0 w : World) (hl : IntsAt w0 vl l) (hL : L = l.length) (hL24 : L ≤ 24) (ht : ∀ i, i < l.length → 0 ≤ l.getD i 0 ∧ l.getD i 0 < 32) (hf : f.Ok)
    (hr : RowAt w rb 61 m V) (hm : n * 4 + 3 < m) (hv2 : V (n * 4 + 2) = .slice (some ⟨ub, 0, none⟩) L L) (hv3 : V (n * 4 + 3) = .slice (some ⟨lb, 0, none⟩) L L) (hu : RowAt w ub 4 L (bitsV us)) (hlr : RowAt w lb 4 L (bitsV rl))
    (h1 : rb ≠ ub) (h2 : rb ≠ lb) (h3 : ub ≠ lb) (h4 : w0.heap.size ≤ rb) (h5 : w0.heap.size ≤ ub) (h6 : w0.heap.size ≤ lb) (hb : Below w0.heap.size w0 w) (hus : us < 2 ^ L) (hrl : rl < 2 ^ L) :
    Calls Try.prog 67 #[.pointer (some ⟨rb, n * 4, none⟩), vl, .agg #[.int .u32 (f.cl : Int), .int .u32 (f.no : Int), .int .u32 (f.re : Int), .int .u32 (f.ak : Int), .int .u32 (f.ca : Int), .int .u32 (f.rq : Int)]] w fun e w' => e = .returned (.tuple #[]) ∧ Only (fun b => b = rb ∨ b = ub ∨ b = lb) w w' ∧
      (relN f l (usedN f l us L) rl L = 2 ^ L - 1 → RowAt w' rb 61 m (fun q => if q = n * 4 then .int .i64 0 else if q = n * 4 + 1 then .int .i64 0 else if q = n * 4 + 2 then .slice none 0 0 else if q = n * 4 + 3 then .slice none 0 0 else V q)) ∧
      (relN f l (usedN f l us L) rl L ≠ 2 ^ L - 1 → RowAt w' rb 61 m V ∧ RowAt w' ub 4 L (bitsV (usedN f l us L)) ∧ RowAt w' lb 4 L (bitsV (relN f l (usedN f l us L) rl L))) := by
  subst hL
  obtain ⟨⟨ta, tc, rfl, _, htc, _⟩, _⟩ := id hl
  unfold maxLen at htc
  have HL := Lib.hid hl; have HT := Lib.hid ht; have HF := Lib.hid hf; have HV2 := Lib.hid hv2; have HV3 := Lib.hid hv3; have HM := Lib.hid hm
  have HUS := Lib.hid hus; have HRL := Lib.hid hrl
  obtain ⟨w1, hw1⟩ : ∃ w1, w1 = w.alloc (.cells #[.int .u32 (f.cl : Int), .int .u32 (f.no : Int), .int .u32 (f.re : Int), .int .u32 (f.ak : Int), .int .u32 (f.ca : Int), .int .u32 (f.rq : Int)] 38) := ⟨_, rfl⟩
  have B1 : Hid (Below w.heap.size w w1) := by rw [hw1]; exact tb_alloc_below _ _
  have K1 : Hid (w1.heap[w.heap.size]? = some (.cells #[.int .u32 (f.cl : Int), .int .u32 (f.no : Int), .int .u32 (f.re : Int), .int .u32 (f.ak : Int), .int .u32 (f.ca : Int), .int .u32 (f.rq : Int)] 38 (0, 0))) := by rw [hw1]; exact heap_alloc_new _ _
  have HW1 := Lib.hid hw1
  have TA : Hid (TrA w0 w.heap.size rb ub lb) := ⟨by have := hr.lt; omega, by have := hu.lt; omega, by have := hlr.lt; omega, h1, h2, h3, h4, h5, h6⟩
  have T1 : Hid (TrW w0 w1 w1 w.heap.size rb ub lb #[.int .u32 (f.cl : Int), .int .u32 (f.no : Int), .int .u32 (f.re : Int), .int .u32 (f.ak : Int), .int .u32 (f.ca : Int), .int .u32 (f.rq : Int)] V m l.length us rl) := ⟨K1.out, hr.same (B1.out.block _ hr.lt), hu.same (B1.out.block _ hu.lt), hlr.same (B1.out.block _ hlr.lt), hb.trans (B1.out.mono hb.size), Only.refl _ _⟩
  obtain ⟨fb, hfb⟩ : ∃ b, b = w.heap.size := ⟨_, rfl⟩
  have HFB := Lib.hid hfb
  rw [← hfb] at T1 TA
  have HON : Hid (∀ (x n : Nat) (W : World), x < 4294967296 → n < 32 → Calls Try.prog 65 #[.int .u32 (x : Int), .int .i64 (n : Int)] W fun e w' => e = .returned (.bool (x.testBit n)) ∧ Below W.heap.size W w') := fun x n W hx hn => (ron_any x n W hx hn).mono fun e w' ⟨he, hw⟩ => ⟨he, by rw [hw]; exact Below.refl _ _⟩
  obtain ⟨US, hUS⟩ : ∃ x, x = usedN f l us l.length := ⟨_, rfl⟩
  have HU := Lib.hid hUS
  rw [← hUS]
  clear hw1 K1 hl ht hf hv2 hv3 hm hr hu hlr h1 h2 h3 h4 h5 h6 hb hus hrl hfb hUS
  go_enter Try.func67, Try.ntmps67
  go_upto_region 1 with fail
  rw [← HW1.out, ← HFB.out]
  clear HW1
  go_wp2_with fail
  go_loopw [6] (fun i wr => ∃ k : Nat, k ≤ l.length ∧ i = .int .i64 k ∧ TrW w0 w1 wr fb rb ub lb #[.int .u32 (f.cl : Int), .int .u32 (f.no : Int), .int .u32 (f.re : Int), .int .u32 (f.ak : Int), .int .u32 (f.ca : Int), .int .u32 (f.rq : Int)] V m l.length (usedN f l us k) rl) (fun i _ => l.length - (intOf i).toNat)
  case atStart => exact ⟨0, Nat.zero_le _, rfl, T1.out⟩
  case round =>
    clear T1
    obtain ⟨k, hk, rfl, hp⟩ := hrel
    have T2 := Lib.hid hp
    clear hp
    by_cases hlt : k < l.length
    case pos =>
      obtain ⟨b, off, rfl, hb, x0⟩ := (HL.out.below T2.out.bel).cell hlt
      obtain ⟨y, hy⟩ := Int.eq_ofNat_of_zero_le (HT.out k hlt).1
      have hy32 : y < 32 := by have := (HT.out k hlt).2; omega
      rw [hy] at x0
      have r2 : wr.cell? ⟨rb, n * 4 + 2, none⟩ = some (.slice (some ⟨ub, 0, none⟩) l.length l.length) := by rw [← HV2.out]; exact T2.out.r.cell (by have := HM.out; omega)
      have u0 : wr.cell? ⟨ub, k, none⟩ = some (.bool ((usedN f l us k).testBit k)) := T2.out.u.cell hlt
      have f0 := cell_row (j := 0) T2.out.f rfl
      have lr := T2.out.r.lt; have lu := T2.out.u.lt; have lf := heap_lt T2.out.f
      have HBIT : Hid (∀ j, j < l.length → (usedN f l us (k + 1)).testBit j = if j = k then ((usedN f l us k).testBit k || !f.cl.testBit y) else (usedN f l us k).testBit j) := fun j _ => by rw [usedN_bit, hy]; rfl
      generalize hu1 : usedN f l us (k + 1) = u1 at *
      have HUE := Lib.hid hu1
      clear hu1
      generalize usedN f l us k = u0' at *
      generalize hb0 : u0'.testBit k = b0 at *
      generalize hh : f.cl.testBit y = h at *
      go_upto_region 4 with fail
      have HB0 := Lib.hid hb0
      have HH : Hid (∀ W, Calls Try.prog 65 #[.int .u32 (f.cl : Int), .int .i64 (y : Int)] W fun e w' => e = .returned (.bool h) ∧ Below W.heap.size W w') := fun W => by rw [← hh]; exact HON.out _ _ W HF.out.cl hy32
      clear hb0 hy hh
      cases b0
      case true =>
        obtain ⟨U, fU, hUn, hU1, hU2⟩ := class_of (fun V => Below wr.heap.size wr V) (W := wr.drew) ⟨rfl, rfl, rfl, Nat.le_refl _, fun _ _ => rfl⟩
        have HU1 := Lib.hid hU1; have HU2 := Lib.hid hU2
        clear hU1 hU2
        have hfm : (Try.prog).follows .mixedOrders = true := by kernel_rfl
        obtain ⟨q, hd1⟩ : ∃ q : Nat, 1 ≤ q := ⟨1, Nat.le_refl _⟩
        have z0 := fun uu => ((HU1.out uu).cell hb).trans x0
        have z1 := fun uu => ((HU1.out uu).cell lr).trans r2
        have z2 := fun uu => ((HU1.out uu).cell lu).trans u0
        have z3 := fun uu => ((HU1.out uu).cell lf).trans f0
        have h0_HR : ∀ uu, Calls Try.prog 65 #[.int .u32 (f.cl : Int), .int .i64 (y : Int)] (fU uu) fun e w' => e = .returned (.bool h) ∧ Below (fU uu).heap.size (fU uu) w' := fun uu => HH.out (fU uu)
        have HR : Hid (∀ uu, CallsIn Fence.wide (q - 1) Try.prog 65 #[.int .u32 (f.cl : Int), .int .i64 (y : Int)] (fU uu) fun e w' => e = .returned (.bool h) ∧ ∃ uu', w' = fU uu') := fun uu => (callsIn_wide.2 (h0_HR uu)).mono (fun e w' ⟨he, hb⟩ => ⟨he, HU2.out _ ((HU1.out uu).trans (hb.mono (HU1.out uu).size))⟩)
        have hf_HR : Fence.wide.fn 65 := trivial
        clear h0_HR
        clear x0 r2 u0 f0 hb lr lu lf
        refine (wpIn_wide (n := q)).1 ?_
        refine wpIn_region_tail_at 23 fU hfm rfl (by kernel_rfl) (HU2.out _ ⟨rfl, rfl, rfl, Nat.le_refl _, fun _ _ => rfl⟩) ?_
        simp only [List.take_succ_cons, List.take_zero, List.getD_cons_succ, List.getD_cons_zero]
        repeat (gi_big_quiet_step ((gi_at_call 65; (with_reducible exact HR.out _))))
        refine wpQuietIn_nil ?_
        intro uu
        have T3 := Lib.hid (T2.out.below (HU1.out uu))
        clear z0 z1 z2 z3 HU1 HU2 HR
        generalize fU uu = w3 at *
        have u0 : w3.cell? ⟨ub, k, none⟩ = some (.bool (u0'.testBit k)) := T3.out.u.cell hlt
        have fr := T3.out.u.frozen k
        have T4 := Lib.hid (T3.out.setU TA.out (k := k) (us' := u1) true (fun j hj => by rw [HBIT.out j hj]; simp))
        unfold Oper.wpIn
        go_simp
        generalize w3.setCell ⟨ub, k, none⟩ (.bool true) = w4 at *
        clear u0 fr T3
        go_wp2_with fail
        go_roundw
        case rel => exact ⟨k + 1, by omega, by go_num, by rw [HUE.out]; exact T4.out⟩
        case measure => simp [intOf]; omega
      case false =>
        obtain ⟨U, fU, hUn, hU1, hU2⟩ := class_of (fun V => Below wr.heap.size wr V) (W := wr.drew) ⟨rfl, rfl, rfl, Nat.le_refl _, fun _ _ => rfl⟩
        have HU1 := Lib.hid hU1; have HU2 := Lib.hid hU2
        clear hU1 hU2
        have hfm : (Try.prog).follows .mixedOrders = true := by kernel_rfl
        obtain ⟨q, hd1⟩ : ∃ q : Nat, 1 ≤ q := ⟨1, Nat.le_refl _⟩
        have z0 := fun uu => ((HU1.out uu).cell hb).trans x0
        have z1 := fun uu => ((HU1.out uu).cell lr).trans r2
        have z2 := fun uu => ((HU1.out uu).cell lu).trans u0
        have z3 := fun uu => ((HU1.out uu).cell lf).trans f0
        have h0_HR : ∀ uu, Calls Try.prog 65 #[.int .u32 (f.cl : Int), .int .i64 (y : Int)] (fU uu) fun e w' => e = .returned (.bool h) ∧ Below (fU uu).heap.size (fU uu) w' := fun uu => HH.out (fU uu)
        have HR : Hid (∀ uu, CallsIn Fence.wide (q - 1) Try.prog 65 #[.int .u32 (f.cl : Int), .int .i64 (y : Int)] (fU uu) fun e w' => e = .returned (.bool h) ∧ ∃ uu', w' = fU uu') := fun uu => (callsIn_wide.2 (h0_HR uu)).mono (fun e w' ⟨he, hb⟩ => ⟨he, HU2.out _ ((HU1.out uu).trans (hb.mono (HU1.out uu).size))⟩)
        have hf_HR : Fence.wide.fn 65 := trivial
        clear h0_HR
        clear x0 r2 u0 f0 hb lr lu lf
        refine (wpIn_wide (n := q)).1 ?_
        refine wpIn_region_tail_at 23 fU hfm rfl (by kernel_rfl) (HU2.out _ ⟨rfl, rfl, rfl, Nat.le_refl _, fun _ _ => rfl⟩) ?_
        simp only [List.take_succ_cons, List.take_zero, List.getD_cons_succ, List.getD_cons_zero]
        repeat (gi_big_quiet_step ((gi_at_call 65; (with_reducible exact HR.out _))))
        refine wpQuietIn_nil ?_
        intro uu
        have T3 := Lib.hid (T2.out.below (HU1.out uu))
        clear z0 z1 z2 z3 HU1 HU2 HR
        generalize fU uu = w3 at *
        have u0 : w3.cell? ⟨ub, k, none⟩ = some (.bool (u0'.testBit k)) := T3.out.u.cell hlt
        have fr := T3.out.u.frozen k
        have T4 := Lib.hid (T3.out.setU TA.out (k := k) (us' := u1) (!h) (fun j hj => by rw [HBIT.out j hj]; simp))
        unfold Oper.wpIn
        go_simp
        generalize w3.setCell ⟨ub, k, none⟩ (.bool (!h)) = w4 at *
        clear u0 fr T3
        go_wp2_with fail
        go_roundw
        case rel => exact ⟨k + 1, by omega, by go_num, by rw [HUE.out]; exact T4.out⟩
        case measure => simp [intOf]; omega
    case neg =>
    obtain rfl : k = l.length := by omega
    rw [← HU.out] at T2
    have HUSL : Hid (US < 2 ^ l.length) := by show _ < _; rw [HU.out]; exact usedN_lt2 f l HUS.out _ (Nat.le_refl _)
    clear HUS HU
    go_wp2_with fail
    go_loopw [7, 8] (fun g i wr => ∃ k : Nat, k ≤ l.length ∧ g = .bool (k == 0 || (relN f l US rl k).testBit (k - 1)) ∧ i = .int .i64 k ∧ TrW w0 w1 wr fb rb ub lb #[.int .u32 (f.cl : Int), .int .u32 (f.no : Int), .int .u32 (f.re : Int), .int .u32 (f.ak : Int), .int .u32 (f.ca : Int), .int .u32 (f.rq : Int)] V m l.length US (relN f l US rl k)) (fun _ i _ => l.length - (intOf i).toNat)
    case atStart => exact ⟨0, Nat.zero_le _, rfl, rfl, T2.out⟩
    case round =>
      clear T2
      obtain ⟨k, hk, rfl, rfl, hp⟩ := hrel
      have T2 := Lib.hid hp
      clear hp
      by_cases hlt : k < l.length
      case pos =>
        obtain ⟨b, off, rfl, hb, x0⟩ := (HL.out.below T2.out.bel).cell hlt
        obtain ⟨y, hy⟩ := Int.eq_ofNat_of_zero_le (HT.out k hlt).1
        have hy32 : y < 32 := by have := (HT.out k hlt).2; omega
        rw [hy] at x0
        have r2 : wr.cell? ⟨rb, n * 4 + 2, none⟩ = some (.slice (some ⟨ub, 0, none⟩) l.length l.length) := by rw [← HV2.out]; exact T2.out.r.cell (by have := HM.out; omega)
        have u0 : wr.cell? ⟨ub, k, none⟩ = some (.bool (US.testBit k)) := T2.out.u.cell hlt
        have f0 := cell_row (j := 0) T2.out.f rfl
        have lr := T2.out.r.lt; have lu := T2.out.u.lt; have lf := heap_lt T2.out.f
        have HBIT : Hid (∀ r, relB f l US (relN f l US rl k) k = r → ∀ j, j < l.length → (relN f l US rl (k + 1)).testBit j = if j = k then ((relN f l US rl k).testBit k || r) else (relN f l US rl k).testBit j) := fun r h j _ => by rw [relN_bit, h]
        have HREL : Hid (relB f l US (relN f l US rl k) k = (((k == 0 || (relN f l US rl k).testBit (k - 1)) && US.testBit k) && f.cl.testBit y && (k + 1 == l.length || US.testBit (k + 1)))) := by show _ = _; unfold relB; rw [hy]; rfl
        have HH : Hid (∀ W, Calls Try.prog 65 #[.int .u32 (f.cl : Int), .int .i64 (y : Int)] W fun e w' => e = .returned (.bool (f.cl.testBit y)) ∧ Below W.heap.size W w') := fun W => HON.out _ _ W HF.out.cl hy32
        have HK0 : Hid ((k + 1 == 0 || (relN f l US rl (k + 1)).testBit (k + 1 - 1)) = (relN f l US rl (k + 1)).testBit k) := rfl
        generalize hx1 : relN f l US rl (k + 1) = x1 at *
        have HX1E := Lib.hid hx1
        clear hx1
        generalize relN f l US rl k = x at *
        generalize relB f l US x k = r at *
        generalize (k == 0 || x.testBit (k - 1)) = g at *
        generalize f.cl.testBit y = h at *
        have HK1 := Lib.hid hlt
        clear hy
        go_upto_region 9 with fail
        cases g
        case false =>
          have HRV : Hid (r = false) := by show _ = _; rw [HREL.out]; simp
          have HB2 := Lib.hid (HBIT.out _ HRV.out)
          obtain ⟨U, fU, hUn, hU1, hU2⟩ := class_of (fun V => Below wr.heap.size wr V) (W := wr.drew) ⟨rfl, rfl, rfl, Nat.le_refl _, fun _ _ => rfl⟩
          have HU1 := Lib.hid hU1; have HU2 := Lib.hid hU2
          clear hU1 hU2
          have hfm : (Try.prog).follows .mixedOrders = true := by kernel_rfl
          obtain ⟨q, hd1⟩ : ∃ q : Nat, 1 ≤ q := ⟨1, Nat.le_refl _⟩
          have z0 := fun uu => ((HU1.out uu).cell hb).trans x0
          have z1 := fun uu => ((HU1.out uu).cell lr).trans r2
          have z2 := fun uu => ((HU1.out uu).cell lu).trans u0
          have z3 := fun uu => ((HU1.out uu).cell lf).trans f0
          skip
          have h0_HR : ∀ uu, Calls Try.prog 65 #[.int .u32 (f.cl : Int), .int .i64 (y : Int)] (fU uu) fun e w' => e = .returned (.bool h) ∧ Below (fU uu).heap.size (fU uu) w' := fun uu => HH.out (fU uu)
          have HR : Hid (∀ uu, CallsIn Fence.wide (q - 1) Try.prog 65 #[.int .u32 (f.cl : Int), .int .i64 (y : Int)] (fU uu) fun e w' => e = .returned (.bool h) ∧ ∃ uu', w' = fU uu') := fun uu => (callsIn_wide.2 (h0_HR uu)).mono (fun e w' ⟨he, hb⟩ => ⟨he, HU2.out _ ((HU1.out uu).trans (hb.mono (HU1.out uu).size))⟩)
          have hf_HR : Fence.wide.fn 65 := trivial
          clear h0_HR
          clear x0 r2 u0 f0 hb lr lu lf
          refine (wpIn_wide (n := q)).1 ?_
          refine wpIn_region_cls fU (by kernel_rfl) hfm (by kernel_rfl) (HU2.out _ ⟨rfl, rfl, rfl, Nat.le_refl _, fun _ _ => rfl⟩) ?_
          repeat (gi_big_quiet_step ((gi_at_call 65; (with_reducible exact HR.out _))))
          refine wpQuietIn_nil ?_
          rintro w3 ⟨uu, rfl⟩
          have T3 := Lib.hid (T2.out.below (HU1.out uu))
          clear z0 z1 z2 z3 HU1 HU2 HR
          skip
          generalize fU uu = w3 at *
          have r3 : w3.cell? ⟨rb, n * 4 + 3, none⟩ = some (.slice (some ⟨lb, 0, none⟩) l.length l.length) := by rw [← HV3.out]; exact T3.out.r.cell (by have := HM.out; omega)
          have lr := T3.out.r.lt; have ll := T3.out.l.lt
          have HE : Hid (x1.testBit k = x.testBit k) := by show _ = _; rw [HB2.out k HK1.out, if_pos rfl, Bool.or_false]
          have l0 : w3.cell? ⟨lb, k, none⟩ = some (.bool (x.testBit k)) := T3.out.l.cell HK1.out
          have T4 : Hid (TrW w0 w1 w3 fb rb ub lb #[.int .u32 (f.cl : Int), .int .u32 (f.no : Int), .int .u32 (f.re : Int), .int .u32 (f.ak : Int), .int .u32 (f.ca : Int), .int .u32 (f.rq : Int)] V m l.length US x1) := ⟨T3.out.f, T3.out.r, T3.out.u, T3.out.l.congr (fun j hj => by
            show Value.bool _ = Value.bool _
            rw [HB2.out j hj]
            split
            · rename_i e; subst e; rw [Bool.or_false]
            · rfl), T3.out.bel, T3.out.only⟩
          generalize x.testBit k = xk at *
          go_wp2_with fail
          clear r3 lr ll l0
          go_roundw
          case rel => exact ⟨k + 1, by have := HK1.out; omega, by rw [HX1E.out]; exact congrArg Value.bool (HK0.out.trans HE.out).symm, by go_num, by rw [HX1E.out]; exact T4.out⟩
          case measure => have := HK1.out; simp [intOf]; omega
        case true =>
          generalize hu0 : US.testBit k = b0 at *
          clear hu0
          cases b0
          case false =>
            have HRV : Hid (r = false) := by show _ = _; rw [HREL.out]; simp
            have HB2 := Lib.hid (HBIT.out _ HRV.out)
            obtain ⟨U, fU, hUn, hU1, hU2⟩ := class_of (fun V => Below wr.heap.size wr V) (W := wr.drew) ⟨rfl, rfl, rfl, Nat.le_refl _, fun _ _ => rfl⟩
            have HU1 := Lib.hid hU1; have HU2 := Lib.hid hU2
            clear hU1 hU2
            have hfm : (Try.prog).follows .mixedOrders = true := by kernel_rfl
            obtain ⟨q, hd1⟩ : ∃ q : Nat, 1 ≤ q := ⟨1, Nat.le_refl _⟩
            have z0 := fun uu => ((HU1.out uu).cell hb).trans x0
            have z1 := fun uu => ((HU1.out uu).cell lr).trans r2
            have z2 := fun uu => ((HU1.out uu).cell lu).trans u0
            have z3 := fun uu => ((HU1.out uu).cell lf).trans f0
            skip
            have h0_HR : ∀ uu, Calls Try.prog 65 #[.int .u32 (f.cl : Int), .int .i64 (y : Int)] (fU uu) fun e w' => e = .returned (.bool h) ∧ Below (fU uu).heap.size (fU uu) w' := fun uu => HH.out (fU uu)
            have HR : Hid (∀ uu, CallsIn Fence.wide (q - 1) Try.prog 65 #[.int .u32 (f.cl : Int), .int .i64 (y : Int)] (fU uu) fun e w' => e = .returned (.bool h) ∧ ∃ uu', w' = fU uu') := fun uu => (callsIn_wide.2 (h0_HR uu)).mono (fun e w' ⟨he, hb⟩ => ⟨he, HU2.out _ ((HU1.out uu).trans (hb.mono (HU1.out uu).size))⟩)
            have hf_HR : Fence.wide.fn 65 := trivial
            clear h0_HR
            clear x0 r2 u0 f0 hb lr lu lf
            refine (wpIn_wide (n := q)).1 ?_
            refine wpIn_region_cls fU (by kernel_rfl) hfm (by kernel_rfl) (HU2.out _ ⟨rfl, rfl, rfl, Nat.le_refl _, fun _ _ => rfl⟩) ?_
            repeat (gi_big_quiet_step ((gi_at_call 65; (with_reducible exact HR.out _))))
            refine wpQuietIn_nil ?_
            rintro w3 ⟨uu, rfl⟩
            have T3 := Lib.hid (T2.out.below (HU1.out uu))
            clear z0 z1 z2 z3 HU1 HU2 HR
            skip
            generalize fU uu = w3 at *
            have r3 : w3.cell? ⟨rb, n * 4 + 3, none⟩ = some (.slice (some ⟨lb, 0, none⟩) l.length l.length) := by rw [← HV3.out]; exact T3.out.r.cell (by have := HM.out; omega)
            have lr := T3.out.r.lt; have ll := T3.out.l.lt
            have HE : Hid (x1.testBit k = x.testBit k) := by show _ = _; rw [HB2.out k HK1.out, if_pos rfl, Bool.or_false]
            have l0 : w3.cell? ⟨lb, k, none⟩ = some (.bool (x.testBit k)) := T3.out.l.cell HK1.out
            have T4 : Hid (TrW w0 w1 w3 fb rb ub lb #[.int .u32 (f.cl : Int), .int .u32 (f.no : Int), .int .u32 (f.re : Int), .int .u32 (f.ak : Int), .int .u32 (f.ca : Int), .int .u32 (f.rq : Int)] V m l.length US x1) := ⟨T3.out.f, T3.out.r, T3.out.u, T3.out.l.congr (fun j hj => by
              show Value.bool _ = Value.bool _
              rw [HB2.out j hj]
              split
              · rename_i e; subst e; rw [Bool.or_false]
              · rfl), T3.out.bel, T3.out.only⟩
            generalize x.testBit k = xk at *
            go_wp2_with fail
            clear r3 lr ll l0
            go_roundw
            case rel => exact ⟨k + 1, by have := HK1.out; omega, by rw [HX1E.out]; exact congrArg Value.bool (HK0.out.trans HE.out).symm, by go_num, by rw [HX1E.out]; exact T4.out⟩
            case measure => have := HK1.out; simp [intOf]; omega
          case true =>
            cases h
            case false =>
              have HRV : Hid (r = false) := by show _ = _; rw [HREL.out]; simp
              have HB2 := Lib.hid (HBIT.out _ HRV.out)
              obtain ⟨U, fU, hUn, hU1, hU2⟩ := class_of (fun V => Below wr.heap.size wr V) (W := wr.drew) ⟨rfl, rfl, rfl, Nat.le_refl _, fun _ _ => rfl⟩
              have HU1 := Lib.hid hU1; have HU2 := Lib.hid hU2
              clear hU1 hU2
              have hfm : (Try.prog).follows .mixedOrders = true := by kernel_rfl
              obtain ⟨q, hd1⟩ : ∃ q : Nat, 1 ≤ q := ⟨1, Nat.le_refl _⟩
              have z0 := fun uu => ((HU1.out uu).cell hb).trans x0
              have z1 := fun uu => ((HU1.out uu).cell lr).trans r2
              have z2 := fun uu => ((HU1.out uu).cell lu).trans u0
              have z3 := fun uu => ((HU1.out uu).cell lf).trans f0
              skip
              have h0_HR : ∀ uu, Calls Try.prog 65 #[.int .u32 (f.cl : Int), .int .i64 (y : Int)] (fU uu) fun e w' => e = .returned (.bool false) ∧ Below (fU uu).heap.size (fU uu) w' := fun uu => HH.out (fU uu)
              have HR : Hid (∀ uu, CallsIn Fence.wide (q - 1) Try.prog 65 #[.int .u32 (f.cl : Int), .int .i64 (y : Int)] (fU uu) fun e w' => e = .returned (.bool false) ∧ ∃ uu', w' = fU uu') := fun uu => (callsIn_wide.2 (h0_HR uu)).mono (fun e w' ⟨he, hb⟩ => ⟨he, HU2.out _ ((HU1.out uu).trans (hb.mono (HU1.out uu).size))⟩)
              have hf_HR : Fence.wide.fn 65 := trivial
              clear h0_HR
              clear x0 r2 u0 f0 hb lr lu lf
              refine (wpIn_wide (n := q)).1 ?_
              refine wpIn_region_cls fU (by kernel_rfl) hfm (by kernel_rfl) (HU2.out _ ⟨rfl, rfl, rfl, Nat.le_refl _, fun _ _ => rfl⟩) ?_
              repeat (gi_big_quiet_step ((gi_at_call 65; (with_reducible exact HR.out _))))
              refine wpQuietIn_nil ?_
              rintro w3 ⟨uu, rfl⟩
              have T3 := Lib.hid (T2.out.below (HU1.out uu))
              clear z0 z1 z2 z3 HU1 HU2 HR
              skip
              generalize fU uu = w3 at *
              have r3 : w3.cell? ⟨rb, n * 4 + 3, none⟩ = some (.slice (some ⟨lb, 0, none⟩) l.length l.length) := by rw [← HV3.out]; exact T3.out.r.cell (by have := HM.out; omega)
              have lr := T3.out.r.lt; have ll := T3.out.l.lt
              have HE : Hid (x1.testBit k = x.testBit k) := by show _ = _; rw [HB2.out k HK1.out, if_pos rfl, Bool.or_false]
              have l0 : w3.cell? ⟨lb, k, none⟩ = some (.bool (x.testBit k)) := T3.out.l.cell HK1.out
              have T4 : Hid (TrW w0 w1 w3 fb rb ub lb #[.int .u32 (f.cl : Int), .int .u32 (f.no : Int), .int .u32 (f.re : Int), .int .u32 (f.ak : Int), .int .u32 (f.ca : Int), .int .u32 (f.rq : Int)] V m l.length US x1) := ⟨T3.out.f, T3.out.r, T3.out.u, T3.out.l.congr (fun j hj => by
                show Value.bool _ = Value.bool _
                rw [HB2.out j hj]
                split
                · rename_i e; subst e; rw [Bool.or_false]
                · rfl), T3.out.bel, T3.out.only⟩
              generalize x.testBit k = xk at *
              go_wp2_with fail
              clear r3 lr ll l0
              go_roundw
              case rel => exact ⟨k + 1, by have := HK1.out; omega, by rw [HX1E.out]; exact congrArg Value.bool (HK0.out.trans HE.out).symm, by go_num, by rw [HX1E.out]; exact T4.out⟩
              case measure => have := HK1.out; simp [intOf]; omega
            case true =>
              by_cases hkL : k + 1 = l.length
              case pos =>
                have tk : ((k : Int) + 1 == (l.length : Int)) = true := by simp; omega
                have tk2 : (k + 1 == l.length) = true := by simpa using hkL
                have HRV : Hid (r = true) := by show _ = _; rw [HREL.out]; (rw [tk2]; rfl)
                have HB2 := Lib.hid (HBIT.out _ HRV.out)
                obtain ⟨U, fU, hUn, hU1, hU2⟩ := class_of (fun V => Below wr.heap.size wr V) (W := wr.drew) ⟨rfl, rfl, rfl, Nat.le_refl _, fun _ _ => rfl⟩
                have HU1 := Lib.hid hU1; have HU2 := Lib.hid hU2
                clear hU1 hU2
                have hfm : (Try.prog).follows .mixedOrders = true := by kernel_rfl
                obtain ⟨q, hd1⟩ : ∃ q : Nat, 1 ≤ q := ⟨1, Nat.le_refl _⟩
                have z0 := fun uu => ((HU1.out uu).cell hb).trans x0
                have z1 := fun uu => ((HU1.out uu).cell lr).trans r2
                have z2 := fun uu => ((HU1.out uu).cell lu).trans u0
                have z3 := fun uu => ((HU1.out uu).cell lf).trans f0
                skip
                have h0_HR : ∀ uu, Calls Try.prog 65 #[.int .u32 (f.cl : Int), .int .i64 (y : Int)] (fU uu) fun e w' => e = .returned (.bool true) ∧ Below (fU uu).heap.size (fU uu) w' := fun uu => HH.out (fU uu)
                have HR : Hid (∀ uu, CallsIn Fence.wide (q - 1) Try.prog 65 #[.int .u32 (f.cl : Int), .int .i64 (y : Int)] (fU uu) fun e w' => e = .returned (.bool true) ∧ ∃ uu', w' = fU uu') := fun uu => (callsIn_wide.2 (h0_HR uu)).mono (fun e w' ⟨he, hb⟩ => ⟨he, HU2.out _ ((HU1.out uu).trans (hb.mono (HU1.out uu).size))⟩)
                have hf_HR : Fence.wide.fn 65 := trivial
                clear h0_HR
                clear x0 r2 u0 f0 hb lr lu lf
                refine (wpIn_wide (n := q)).1 ?_
                refine wpIn_region_cls fU (by kernel_rfl) hfm (by kernel_rfl) (HU2.out _ ⟨rfl, rfl, rfl, Nat.le_refl _, fun _ _ => rfl⟩) ?_
                repeat (gi_big_quiet_step ((gi_at_call 65; (with_reducible exact HR.out _))))
                refine wpQuietIn_nil ?_
                rintro w3 ⟨uu, rfl⟩
                have T3 := Lib.hid (T2.out.below (HU1.out uu))
                clear z0 z1 z2 z3 HU1 HU2 HR
                skip
                generalize fU uu = w3 at *
                have r3 : w3.cell? ⟨rb, n * 4 + 3, none⟩ = some (.slice (some ⟨lb, 0, none⟩) l.length l.length) := by rw [← HV3.out]; exact T3.out.r.cell (by have := HM.out; omega)
                have lr := T3.out.r.lt; have ll := T3.out.l.lt
                have HE : Hid (x1.testBit k = true) := by show _ = _; rw [HB2.out k HK1.out, if_pos rfl, Bool.or_true]
                have l0 : w3.cell? ⟨lb, k, none⟩ = some (.bool (x.testBit k)) := T3.out.l.cell HK1.out
                have fr := T3.out.l.frozen k
                have T4 : Hid (TrW w0 w1 (w3.setCell ⟨lb, k, none⟩ (.bool true)) fb rb ub lb #[.int .u32 (f.cl : Int), .int .u32 (f.no : Int), .int .u32 (f.re : Int), .int .u32 (f.ak : Int), .int .u32 (f.ca : Int), .int .u32 (f.rq : Int)] V m l.length US x1) := T3.out.setL TA.out (k := k) true (fun j hj => by rw [HB2.out j hj]; simp)
                generalize x.testBit k = xk at *
                go_upto_region 11 with fail
                generalize w3.setCell ⟨lb, k, none⟩ (.bool true) = w4 at *
                clear r3 lr ll l0 fr T3
                have r3 : w4.cell? ⟨rb, n * 4 + 3, none⟩ = some (.slice (some ⟨lb, 0, none⟩) l.length l.length) := by rw [← HV3.out]; exact T4.out.r.cell (by have := HM.out; omega)
                have l0 : w4.cell? ⟨lb, k, none⟩ = some (.bool true) := by rw [← HE.out]; exact T4.out.l.cell HK1.out
                have lr := T4.out.r.lt; have ll := T4.out.l.lt
                go_wp2_with fail
                clear r3 lr ll l0
                go_roundw
                case rel => exact ⟨k + 1, by have := HK1.out; omega, by rw [HX1E.out]; exact congrArg Value.bool (HK0.out.trans HE.out).symm, by go_num, by rw [HX1E.out]; exact T4.out⟩
                case measure => have := HK1.out; simp [intOf]; omega
              case neg =>
                have tk : ((k : Int) + 1 == (l.length : Int)) = false := by simp; omega
                have tk2 : (k + 1 == l.length) = false := by simpa using hkL
                have hk1 : k + 1 < l.length := by omega
                have u1 : wr.cell? ⟨ub, k + 1, none⟩ = some (.bool (US.testBit (k + 1))) := T2.out.u.cell hk1
                generalize hu1 : US.testBit (k + 1) = b1 at *
                clear hu1 hkL
                cases b1
                case false =>
                  have HRV : Hid (r = false) := by show _ = _; rw [HREL.out]; (rw [tk2]; rfl)
                  have HB2 := Lib.hid (HBIT.out _ HRV.out)
                  obtain ⟨U, fU, hUn, hU1, hU2⟩ := class_of (fun V => Below wr.heap.size wr V) (W := wr.drew) ⟨rfl, rfl, rfl, Nat.le_refl _, fun _ _ => rfl⟩
                  have HU1 := Lib.hid hU1; have HU2 := Lib.hid hU2
                  clear hU1 hU2
                  have hfm : (Try.prog).follows .mixedOrders = true := by kernel_rfl
                  obtain ⟨q, hd1⟩ : ∃ q : Nat, 1 ≤ q := ⟨1, Nat.le_refl _⟩
                  have z0 := fun uu => ((HU1.out uu).cell hb).trans x0
                  have z1 := fun uu => ((HU1.out uu).cell lr).trans r2
                  have z2 := fun uu => ((HU1.out uu).cell lu).trans u0
                  have z3 := fun uu => ((HU1.out uu).cell lf).trans f0
                  have z4 := fun uu => ((HU1.out uu).cell lu).trans u1
                  have h0_HR : ∀ uu, Calls Try.prog 65 #[.int .u32 (f.cl : Int), .int .i64 (y : Int)] (fU uu) fun e w' => e = .returned (.bool true) ∧ Below (fU uu).heap.size (fU uu) w' := fun uu => HH.out (fU uu)
                  have HR : Hid (∀ uu, CallsIn Fence.wide (q - 1) Try.prog 65 #[.int .u32 (f.cl : Int), .int .i64 (y : Int)] (fU uu) fun e w' => e = .returned (.bool true) ∧ ∃ uu', w' = fU uu') := fun uu => (callsIn_wide.2 (h0_HR uu)).mono (fun e w' ⟨he, hb⟩ => ⟨he, HU2.out _ ((HU1.out uu).trans (hb.mono (HU1.out uu).size))⟩)
                  have hf_HR : Fence.wide.fn 65 := trivial
                  clear h0_HR
                  clear x0 r2 u0 f0 hb lr lu lf
                  refine (wpIn_wide (n := q)).1 ?_
                  refine wpIn_region_cls fU (by kernel_rfl) hfm (by kernel_rfl) (HU2.out _ ⟨rfl, rfl, rfl, Nat.le_refl _, fun _ _ => rfl⟩) ?_
                  repeat (gi_big_quiet_step ((gi_at_call 65; (with_reducible exact HR.out _))))
                  refine wpQuietIn_nil ?_
                  rintro w3 ⟨uu, rfl⟩
                  have T3 := Lib.hid (T2.out.below (HU1.out uu))
                  clear z0 z1 z2 z3 HU1 HU2 HR
                  clear z4 u1
                  generalize fU uu = w3 at *
                  have r3 : w3.cell? ⟨rb, n * 4 + 3, none⟩ = some (.slice (some ⟨lb, 0, none⟩) l.length l.length) := by rw [← HV3.out]; exact T3.out.r.cell (by have := HM.out; omega)
                  have lr := T3.out.r.lt; have ll := T3.out.l.lt
                  have HE : Hid (x1.testBit k = x.testBit k) := by show _ = _; rw [HB2.out k HK1.out, if_pos rfl, Bool.or_false]
                  have l0 : w3.cell? ⟨lb, k, none⟩ = some (.bool (x.testBit k)) := T3.out.l.cell HK1.out
                  have T4 : Hid (TrW w0 w1 w3 fb rb ub lb #[.int .u32 (f.cl : Int), .int .u32 (f.no : Int), .int .u32 (f.re : Int), .int .u32 (f.ak : Int), .int .u32 (f.ca : Int), .int .u32 (f.rq : Int)] V m l.length US x1) := ⟨T3.out.f, T3.out.r, T3.out.u, T3.out.l.congr (fun j hj => by
                    show Value.bool _ = Value.bool _
                    rw [HB2.out j hj]
                    split
                    · rename_i e; subst e; rw [Bool.or_false]
                    · rfl), T3.out.bel, T3.out.only⟩
                  generalize x.testBit k = xk at *
                  go_wp2_with fail
                  clear r3 lr ll l0
                  go_roundw
                  case rel => exact ⟨k + 1, by have := HK1.out; omega, by rw [HX1E.out]; exact congrArg Value.bool (HK0.out.trans HE.out).symm, by go_num, by rw [HX1E.out]; exact T4.out⟩
                  case measure => have := HK1.out; simp [intOf]; omega
                case true =>
                  have HRV : Hid (r = true) := by show _ = _; rw [HREL.out]; (rw [tk2]; rfl)
                  have HB2 := Lib.hid (HBIT.out _ HRV.out)
                  obtain ⟨U, fU, hUn, hU1, hU2⟩ := class_of (fun V => Below wr.heap.size wr V) (W := wr.drew) ⟨rfl, rfl, rfl, Nat.le_refl _, fun _ _ => rfl⟩
                  have HU1 := Lib.hid hU1; have HU2 := Lib.hid hU2
                  clear hU1 hU2
                  have hfm : (Try.prog).follows .mixedOrders = true := by kernel_rfl
                  obtain ⟨q, hd1⟩ : ∃ q : Nat, 1 ≤ q := ⟨1, Nat.le_refl _⟩
                  have z0 := fun uu => ((HU1.out uu).cell hb).trans x0
                  have z1 := fun uu => ((HU1.out uu).cell lr).trans r2
                  have z2 := fun uu => ((HU1.out uu).cell lu).trans u0
                  have z3 := fun uu => ((HU1.out uu).cell lf).trans f0
                  have z4 := fun uu => ((HU1.out uu).cell lu).trans u1
                  have h0_HR : ∀ uu, Calls Try.prog 65 #[.int .u32 (f.cl : Int), .int .i64 (y : Int)] (fU uu) fun e w' => e = .returned (.bool true) ∧ Below (fU uu).heap.size (fU uu) w' := fun uu => HH.out (fU uu)
                  have HR : Hid (∀ uu, CallsIn Fence.wide (q - 1) Try.prog 65 #[.int .u32 (f.cl : Int), .int .i64 (y : Int)] (fU uu) fun e w' => e = .returned (.bool true) ∧ ∃ uu', w' = fU uu') := fun uu => (callsIn_wide.2 (h0_HR uu)).mono (fun e w' ⟨he, hb⟩ => ⟨he, HU2.out _ ((HU1.out uu).trans (hb.mono (HU1.out uu).size))⟩)
                  have hf_HR : Fence.wide.fn 65 := trivial
                  clear h0_HR
                  clear x0 r2 u0 f0 hb lr lu lf
                  refine (wpIn_wide (n := q)).1 ?_
                  refine wpIn_region_cls fU (by kernel_rfl) hfm (by kernel_rfl) (HU2.out _ ⟨rfl, rfl, rfl, Nat.le_refl _, fun _ _ => rfl⟩) ?_
                  repeat (gi_big_quiet_step ((gi_at_call 65; (with_reducible exact HR.out _))))
                  refine wpQuietIn_nil ?_
                  rintro w3 ⟨uu, rfl⟩
                  have T3 := Lib.hid (T2.out.below (HU1.out uu))
                  clear z0 z1 z2 z3 HU1 HU2 HR
                  clear z4 u1
                  generalize fU uu = w3 at *
                  have r3 : w3.cell? ⟨rb, n * 4 + 3, none⟩ = some (.slice (some ⟨lb, 0, none⟩) l.length l.length) := by rw [← HV3.out]; exact T3.out.r.cell (by have := HM.out; omega)
                  have lr := T3.out.r.lt; have ll := T3.out.l.lt
                  have HE : Hid (x1.testBit k = true) := by show _ = _; rw [HB2.out k HK1.out, if_pos rfl, Bool.or_true]
                  have l0 : w3.cell? ⟨lb, k, none⟩ = some (.bool (x.testBit k)) := T3.out.l.cell HK1.out
                  have fr := T3.out.l.frozen k
                  have T4 : Hid (TrW w0 w1 (w3.setCell ⟨lb, k, none⟩ (.bool true)) fb rb ub lb #[.int .u32 (f.cl : Int), .int .u32 (f.no : Int), .int .u32 (f.re : Int), .int .u32 (f.ak : Int), .int .u32 (f.ca : Int), .int .u32 (f.rq : Int)] V m l.length US x1) := T3.out.setL TA.out (k := k) true (fun j hj => by rw [HB2.out j hj]; simp)
                  generalize x.testBit k = xk at *
                  go_upto_region 11 with fail
                  generalize w3.setCell ⟨lb, k, none⟩ (.bool true) = w4 at *
                  clear r3 lr ll l0 fr T3
                  have r3 : w4.cell? ⟨rb, n * 4 + 3, none⟩ = some (.slice (some ⟨lb, 0, none⟩) l.length l.length) := by rw [← HV3.out]; exact T4.out.r.cell (by have := HM.out; omega)
                  have l0 : w4.cell? ⟨lb, k, none⟩ = some (.bool true) := by rw [← HE.out]; exact T4.out.l.cell HK1.out
                  have lr := T4.out.r.lt; have ll := T4.out.l.lt
                  go_wp2_with fail
                  clear r3 lr ll l0
                  go_roundw
                  case rel => exact ⟨k + 1, by have := HK1.out; omega, by rw [HX1E.out]; exact congrArg Value.bool (HK0.out.trans HE.out).symm, by go_num, by rw [HX1E.out]; exact T4.out⟩
                  case measure => have := HK1.out; simp [intOf]; omega
      case neg =>
      obtain rfl : k = l.length := by omega
      have HXL : Hid (relN f l US rl l.length < 2 ^ l.length) := relN_lt2 f l HRL.out _ (Nat.le_refl _)
      generalize hX : relN f l US rl l.length = X at *
      have HXE := Lib.hid hX
      clear hX
      go_wp2_with fail
      go_loopw [9] (fun i wr => ∃ k : Nat, k ≤ l.length ∧ i = .int .i64 k ∧ (∀ j, j < k → X.testBit j = true) ∧ TrW w0 w1 wr fb rb ub lb #[.int .u32 (f.cl : Int), .int .u32 (f.no : Int), .int .u32 (f.re : Int), .int .u32 (f.ak : Int), .int .u32 (f.ca : Int), .int .u32 (f.rq : Int)] V m l.length US X) (fun i _ => l.length - (intOf i).toNat)
      case atStart => exact ⟨0, Nat.zero_le _, rfl, fun j hj => absurd hj (by omega), T2.out⟩
      case round =>
        clear T2
        obtain ⟨k, hk, rfl, hno, hp⟩ := hrel
        have T2 := Lib.hid hp; have NO := Lib.hid hno
        clear hp hno
        by_cases hlt : k < l.length
        case pos =>
          have r3 : wr.cell? ⟨rb, n * 4 + 3, none⟩ = some (.slice (some ⟨lb, 0, none⟩) l.length l.length) := by rw [← HV3.out]; exact T2.out.r.cell (by have := HM.out; omega)
          have l0 : wr.cell? ⟨lb, k, none⟩ = some (.bool (X.testBit k)) := T2.out.l.cell hlt
          have lr := T2.out.r.lt; have ll := T2.out.l.lt
          generalize hb0 : X.testBit k = b0 at *
          have HB0 := Lib.hid hb0
          clear hb0
          cases b0
          case false =>
            have HNF : Hid (X ≠ 2 ^ l.length - 1) := fun h => by have := (full_iff HXL.out).1 h k hlt; rw [HB0.out] at this; cases this
            go_wp2_with fail
            refine bodyPost_ret (results_none rfl _ _ _) rfl ?_
            rw [HXE.out]
            exact ⟨rfl, (Only.of_below _ B1.out).trans T2.out.only, fun h => absurd h HNF.out, fun _ => ⟨T2.out.r, T2.out.u, T2.out.l⟩⟩
          case true =>
            have HNN : Hid (∀ j, j < k + 1 → X.testBit j = true) := fun j hj => by
              by_cases e : j < k
              · exact NO.out j e
              · obtain rfl : j = k := by omega
                exact HB0.out
            go_wp2_with fail
            clear r3 l0 lr ll
            go_roundw
            case rel => exact ⟨k + 1, by omega, by go_num, HNN.out, T2.out⟩
            case measure => simp [intOf]; omega
        case neg =>
        obtain rfl : k = l.length := by omega
        have HFUL : Hid (X = 2 ^ l.length - 1) := (full_iff HXL.out).2 NO.out
        have hm := HM.out
        have r0 := T2.out.r.cell (i := n * 4) (by omega); have r1 := T2.out.r.cell (i := n * 4 + 1) (by omega); have r2 := T2.out.r.cell (i := n * 4 + 2) (by omega); have r3 := T2.out.r.cell (i := n * 4 + 3) (by omega)
        have f0 := T2.out.r.frozen (n * 4); have f1 := T2.out.r.frozen (n * 4 + 1); have f2 := T2.out.r.frozen (n * 4 + 2); have f3 := T2.out.r.frozen (n * 4 + 3)
        have lr := T2.out.r.lt
        have HROW := Lib.hid ((((T2.out.r.set (i := n * 4) (.int .i64 0)).set (i := n * 4 + 1) (.int .i64 0)).set (i := n * 4 + 2) (.slice none 0 0)).set (i := n * 4 + 3) (.slice none 0 0))
        have HONL := Lib.hid ((((T2.out.only.set (g := rb) (n * 4) (.int .i64 0) (.inr (.inl rfl))).set (g := rb) (n * 4 + 1) (.int .i64 0) (.inr (.inl rfl))).set (g := rb) (n * 4 + 2) (.slice none 0 0) (.inr (.inl rfl))).set (g := rb) (n * 4 + 3) (.slice none 0 0) (.inr (.inl rfl)))
        go_wp2_with fail
        go_end0
        rw [HXE.out]
        refine ⟨rfl, (Only.of_below _ B1.out).trans HONL.out, fun _ => HROW.out.congr fun j hj => ?_, fun h => absurd HFUL.out h⟩
        by_cases e0 : j = n * 4
        · subst e0; rw [if_neg (by omega), if_neg (by omega), if_neg (by omega), if_pos rfl, if_pos rfl]
        · by_cases e1 : j = n * 4 + 1
          · subst e1; rw [if_neg (by omega), if_neg (by omega), if_pos rfl, if_neg (by omega), if_pos rfl]
          · by_cases e2 : j = n * 4 + 2
            · subst e2; rw [if_neg (by omega), if_pos rfl, if_neg (by omega), if_neg (by omega), if_pos rfl]
            · by_cases e3 : j = n * 4 + 3
              · subst e3; rw [if_pos rfl, if_neg (by omega), if_neg (by omega), if_neg (by omega), if_pos rfl]
              · rw [if_neg e3, if_neg e2, if_neg e1, if_neg e0, if_neg e0, if_neg e1, if_neg e2, if_neg e3]
end Go.Proofs.Ytlfcmedhadfheaa
