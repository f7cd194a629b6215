/- Moves that lie behind slices of slices; Heavy. -/
import Derived.Test.YtnjeiigdfdjccaaYrdV
namespace Go.Proofs.Ytnjeiigdfdjccaa
open Go.RowKit
set_option linter.unusedVariables false
set_option linter.unusedSimpArgs false
instance : Inhabited MV := ⟨mv0⟩
theorem mvCells : Try.prog.cellsOf 56 = 2 := by kernel_rfl
theorem mvsCells : Try.prog.cellsOf 36 = 1 := by kernel_rfl
theorem u8Cells : Try.prog.cellsOf 5 = 1 := by kernel_rfl
theorem reads_u8c {w : World} {cs : List Value} {o : Nat} (h : ReadsC w 5 ((cs.drop o).take (Try.prog.cellsOf 5))) : ∃ n : Nat, n < 256 ∧ cs.getD o undef = .int .u8 (n : Int) := by
  rw [u8Cells] at h
  obtain ⟨n, hc, hw⟩ := reads_int1 Try.underlying5 h
  obtain ⟨h0, h1⟩ := bounds_u8 hw
  obtain ⟨m, rfl⟩ := Int.eq_ofNat_of_zero_le h0
  exact ⟨m, by omega, one_take hc⟩
theorem reads_mv {w : World} {cs : List Value} (h : ReadsC w 56 cs) : ∃ m : MV, (m.kd < 256 ∧ i64ok m.n) ∧ cs.getD 0 undef = .int .u8 (m.kd : Int) ∧ cs.getD 1 undef = .int .i64 m.n := by
  obtain ⟨hl, hf⟩ := reads_struct Try.underlying56 h
  obtain ⟨a, ha, e0⟩ := reads_u8c (hf 0 _ rfl)
  obtain ⟨b, hb, e1⟩ := reads_i64 (hf 1 _ rfl)
  exact ⟨⟨a, b⟩, ⟨ha, hb⟩, e0, e1⟩
theorem reads_mvs {w : World} {v : Value} (h : ReadsC w 36 [v]) : ∃ l, MvsAt w v l := by
  obtain ⟨a, n, c, e⟩ := reads_shape Try.underlying36 h
  cases e
  obtain ⟨hl, hm, C, hs, hr⟩ := reads_sliceN Try.underlying36 mvCells (by omega) h
  obtain ⟨D, hD⟩ := choose_nat (α := MV) (p := fun i m => (m.kd < 256 ∧ i64ok m.n) ∧ (C i).getD 0 undef = .int .u8 (m.kd : Int) ∧ (C i).getD 1 undef = .int .i64 m.n) (fun i hi => reads_mv (hr i hi).2)
  obtain ⟨l, hll, hle⟩ := list_of n D mv0
  subst hll
  refine ⟨l, ⟨a, c, rfl, hl, hm, hs.congr fun i hi j hj => ?_⟩, fun i hi => by rw [hle i hi]; exact (hD i hi).1⟩
  unfold mvV
  rw [hle i hi]
  obtain ⟨_, e0, e1⟩ := hD i hi
  match j, hj with
  | 0, _ => exact e0
  | 1, _ => exact e1
/-- Lists of moves. -/
structure MssAt (w : World) (v : Value) (ls : List (List MV)) : Prop where
  at_ : ∃ a c V, v = .slice a ls.length c ∧ ls.length ≤ c ∧ c ≤ maxLen ∧ SliceAt w a ls.length V ∧ ∀ i, i < ls.length → MvsAt w (V i) (ls.getD i [])
  l1 : ls.length < 2 ^ 47
  l2 : ∀ i, i < ls.length → (ls.getD i []).length < 2 ^ 47
theorem MssAt.below {w w' : World} {v : Value} {l : List (List MV)} (h : MssAt w v l) (hb : Below w.heap.size w w') : MssAt w' v l := by
  obtain ⟨⟨a, c, V, h1, h2, h3, h4, h5⟩, h6, h7⟩ := h
  exact ⟨⟨a, c, V, h1, h2, h3, h4.below hb, fun i hi => (h5 i hi).below hb⟩, h6, h7⟩
theorem mvBytes : 1 ≤ Try.prog.bytesOf 56 := of_decide_eq_true (by kernel_rfl)
theorem mvsBytes : 1 ≤ Try.prog.bytesOf 36 := of_decide_eq_true (by kernel_rfl)
theorem reads_mvss {w : World} {v : Value} (h : ReadsW w 26 [v]) : ∃ l, MssAt w v l := by
  obtain ⟨a, n, c, e⟩ := reads_shape Try.underlying26 h.c
  cases e
  obtain ⟨hl, hm, V, hs, hr⟩ := reads_slice1 Try.underlying26 mvsCells h.c
  obtain ⟨D, hD⟩ := choose_nat (α := List MV) (p := fun i l => MvsAt w (V i) l) (fun i hi => reads_mvs (hr i hi))
  obtain ⟨l, hll, hle⟩ := list_of n D []
  subst hll
  refine ⟨l, ⟨a, c, V, rfl, hl, hm, hs, fun i hi => by rw [hle i hi]; exact hD i hi⟩, readsW_len Try.underlying26 mvsBytes h, fun i hi => ?_⟩
  obtain ⟨x, cs, rfl, hcl, hc, hw⟩ := readsW_each Try.underlying26 mvsCells h i hi
  obtain ⟨a', c', e, _⟩ := (hD i hi).at_
  rw [hle i hi]
  rcases hs with h0 | ⟨b, off, hx, hlt, hcell⟩
  · omega
  · cases hx
    have h1 := hc 0 (by omega)
    have h2 := hcell i hi
    rw [Go.WideShapes.add_plain, Go.WideShapes.add_plain, Nat.mul_one, Nat.add_zero, h2] at h1
    have hcs : cs = [V i] := by
      match cs, hcl with
      | [z], _ => simpa using h1.symm
    rw [hcs, e] at hw
    exact readsW_len Try.underlying36 mvBytes hw
end Go.Proofs.Ytnjeiigdfdjccaa
/- Heavy. -/
namespace Go.Proofs.Ytnjeiigdfdjccaa
open Go.RowKit
set_option linter.unusedVariables false
set_option linter.unusedSimpArgs false
def totN : List (List MV) → Nat
  | [] => 0
  | x :: l => 1 + x.length + totN l
theorem totN_app : ∀ (a b : List (List MV)), totN (a ++ b) = totN a + totN b
  | [], b => by show totN b = 0 + totN b; omega
  | x :: a, b => by show 1 + x.length + totN (a ++ b) = 1 + x.length + totN a + totN b; rw [totN_app a b]; omega
theorem totN_take (ls : List (List MV)) {k : Nat} (h : k < ls.length) : totN (ls.take (k + 1)) = totN (ls.take k) + (1 + (ls.getD k []).length) := by
  rw [take_snoc [] h, totN_app]; rfl
theorem totN_mono (ls : List (List MV)) (k : Nat) : totN (ls.take k) ≤ totN ls := by
  have h := totN_app (ls.take k) (ls.drop k)
  rw [List.take_append_drop] at h
  omega
def heavyB (T : Tab) (ls : List (List MV)) : Bool := decide (600 < totN ls) || greatB T
theorem totN_len : ∀ ls : List (List MV), ls.length ≤ totN ls
  | [] => Nat.le_refl _
  | x :: l => by have := totN_len l; show l.length + 1 ≤ 1 + x.length + totN l; omega
theorem totN_get {ls : List (List MV)} {k : Nat} (h : k < ls.length) : (ls.getD k []).length ≤ totN ls := by
  have h1 := totN_take ls h
  have h2 := totN_mono ls (k + 1)
  omega
set_option maxRecDepth 100000 in
set_option maxHeartbeats 4000000 in
theorem yheavy_any (v vl : Value) (T : Tab) (ls : List (List MV)) (w : World) (hT : TabAt w v T) (hs : TSm T) (hl : MssAt w vl ls) :
    Calls Try.prog 9 #[v, vl] w fun e w' => e = .returned (.bool (heavyB T ls)) ∧ Below w.heap.size w w' := by
  have hT0 := hT
  obtain ⟨⟨vp, vr, rfl, hP, hr⟩, _, _⟩ := hT
  obtain ⟨a, c, C0, rfl, hlc, hcm, _⟩ := hr.at_
  obtain ⟨⟨va, vc, rfl, hvl, hvm, _⟩, _⟩ := id hP
  obtain ⟨⟨la, lc, V, rfl, hl1, hl2, hls, hlv⟩, hz1, hz2⟩ := hl
  obtain ⟨w1, hw1⟩ : ∃ w1, w1 = w.alloc (.cells #[.int .i64 T.tracks, .slice va T.pts.length vc, .int .i64 T.sigs, .slice a T.rts.length c] 25) := ⟨_, rfl⟩
  have B1 : Hid (Below w.heap.size w w1) := by rw [hw1]; exact tb_alloc_below _ _
  have K1 : Hid (w1.heap[w.heap.size]? = some (.cells #[.int .i64 T.tracks, .slice va T.pts.length vc, .int .i64 T.sigs, .slice a T.rts.length c] 25 (0, 0))) := by rw [hw1]; exact heap_alloc_new _ _
  have HW1 := Lib.hid hw1
  have HG := Lib.hid (great_any (.agg #[.int .i64 T.tracks, .slice va T.pts.length vc, .int .i64 T.sigs, .slice a T.rts.length c]) T w1 (hT0.below B1.out) hs)
  have HLS := Lib.hid (hls.below B1.out); have HLV := Lib.hid hlv; have HZ2 := Lib.hid hz2
  have c0 := cell_row (j := 0) K1.out rfl; have c1 := cell_row (j := 1) K1.out rfl; have c2 := cell_row (j := 2) K1.out rfl; have c3 := cell_row (j := 3) K1.out rfl
  have lk := heap_lt K1.out
  unfold maxLen at hl2 hcm hvm
  have HB : Hid (heavyB T ls = (decide (600 < totN ls) || greatB T)) := rfl
  generalize heavyB T ls = F at *
  generalize greatB T = G at *
  have HTT : Hid (∀ k, k < ls.length → totN (ls.take (k + 1)) = totN (ls.take k) + (1 + (ls.getD k []).length)) := fun k h => totN_take ls h
  have HTM : Hid (∀ k, totN (ls.take k) ≤ totN ls) := totN_mono ls
  have HT0 : Hid (totN (ls.take 0) = 0) := rfl
  have HTE : Hid (totN (ls.take ls.length) = totN ls) := by show _ = _; rw [List.take_length]
  obtain ⟨kb, hkb⟩ : ∃ b, b = w.heap.size := ⟨_, rfl⟩
  clear hw1 hT0 hP hr hs hls hlv hz2 K1
  go_enter Try.func9, Try.ntmps9
  go_upto_region 3 with fail
  rw [← HW1.out]
  clear HW1
  go_loopw [10, 5] (fun i nv wr => ∃ k : Nat, k ≤ ls.length ∧ i = .int .i64 k ∧ nv = .int .i64 (totN (ls.take k) : Int) ∧ totN (ls.take k) ≤ 600 ∧ wr = w1) (fun i _ _ => ls.length - (intOf i).toNat)
  case atStart => exact ⟨0, Nat.zero_le _, rfl, rfl, by rw [HT0.out]; omega, rfl⟩
  case round =>
    obtain ⟨k, hk, rfl, rfl, hk6, rfl⟩ := hrel
    by_cases hlt : k < ls.length
    case neg =>
      obtain hkk : k = ls.length := by omega
      have HX : Hid (F = G) := by show _ = _; rw [HB.out, ← HTE.out, ← hkk, decide_eq_false (by omega)]; rfl
      clear hkk
      go_wp2_with fail
      refine HG.out.mono ?_
      rintro e w2 ⟨rfl, hb⟩
      have B2 := Lib.hid (B1.out.trans (hb.mono B1.out.size))
      clear hb
      go_wp2_with fail
      go_ret
      exact ⟨congrArg (fun b => Ending.returned (.bool b)) HX.out.symm, B2.out⟩
    case pos =>
    obtain ⟨b, off, rfl, hb, hx⟩ := HLS.out.at (by omega)
    have x0 := hx k hlt
    obtain ⟨⟨xa, xc, hxv, _⟩, _⟩ := HLV.out k hlt
    rw [hxv] at x0
    have h1 := HTT.out k hlt
    have h2 := HZ2.out k hlt
    have h3 := HTM.out (k + 1)
    clear hx hxv
    generalize (ls.getD k []).length = L at *
    have HTK := Lib.hid h1
    obtain ⟨t, ht⟩ : ∃ x, x = totN (ls.take k) := ⟨_, rfl⟩
    obtain ⟨t', ht'⟩ : ∃ x, x = totN (ls.take (k + 1)) := ⟨_, rfl⟩
    have HE' := Lib.hid ht'
    rw [← ht, ← ht'] at h1
    rw [← ht'] at h3
    rw [← ht] at hk6 ⊢
    clear ht ht' HTK
    by_cases h6 : 600 < t'
    case pos =>
      have d6 : decide ((600 : Int) < (t : Int) + (1 + (L : Int))) = true := decide_eq_true (by omega)
      have HX : Hid (F = true) := by show _ = _; rw [HB.out, decide_eq_true (by omega)]; rfl
      go_wp2_with fail
      go_ret
      exact ⟨congrArg (fun b => Ending.returned (.bool b)) HX.out.symm, B1.out⟩
    case neg =>
      have d6 : decide ((600 : Int) < (t : Int) + (1 + (L : Int))) = false := decide_eq_false (by omega)
      go_wp2_with fail
      go_roundw
      case rel => exact ⟨k + 1, by omega, by go_num, by rw [← HE'.out, h1]; go_num, by rw [← HE'.out]; omega, by first | trivial | rfl⟩
      case measure => simp [intOf]; omega
end Go.Proofs.Ytnjeiigdfdjccaa
/- What the yard's laws have in common. -/
namespace Go.Proofs.Ytnjeiigdfdjccaa
open Go.RowKit
set_option linter.unusedVariables false
set_option linter.unusedSimpArgs false
theorem framesY_snoc (T : Tab) (d : Nat) (x : List MV) : ∀ (l : List (List MV)) (Y : YS), framesY T d Y (l ++ [x]) = frameY T d (framesY T d Y l) x
  | [], _ => rfl
  | y :: l, Y => framesY_snoc T d x l (frameY T d Y y)
theorem yfine_frames {T : Tab} {d : Nat} (hc : checkE T = 0) (hT : TOk T) (hd : d ≤ 100) : ∀ (l : List (List MV)) (Y : YS), YFine T Y → YFine T (framesY T d Y l)
  | [], _, h => h
  | x :: l, Y, h => yfine_frames hc hT hd l _ (h.frame hc hT hd x)
theorem heavy_no {T : Tab} {ls : List (List MV)} (h : heavyB T ls = false) : greatB T = false ∧ totN ls ≤ 600 := by
  unfold heavyB at h
  rw [Bool.or_eq_false_iff] at h
  exact ⟨h.2, by have := of_decide_eq_false h.1; omega⟩
/-- A world of a law: its table's box, its yard. -/
structure LwAt (w : World) (kb : Nat) (TV : Array Value) (y : Yd) (Y : YS) (W : World) : Prop where
  k : W.heap[kb]? = some (.cells TV 25 (0, 0))
  yd : YdAt W y Y
  b : Below w.heap.size w W
  ge : w.heap.size ≤ y.w0.heap.size
  kw : kb < y.w0.heap.size
theorem LwAt.M {w : World} {kb : Nat} {TV : Array Value} {y : Yd} {Y : YS} {W : World} (h : LwAt w kb TV y Y W) : ∀ b, y.M b → y.w0.heap.size ≤ b ∧ b < W.heap.size := fun b hb => by
  have h1 := h.yd.M_ge b hb
  have h2 := h.yd.ap.z
  omega
theorem LwAt.turn {w : World} {kb : Nat} {TV : Array Value} {y : Yd} {Y Y' : YS} {W W' : World} (h : LwAt w kb TV y Y W) (k : TurnY y W Y' W') : LwAt w kb TV y Y' W' :=
  ⟨(k.2.block _ (heap_lt h.k) (fun hm => by have := (h.M _ hm).1; have := h.kw; omega)).trans h.k, k.1, TurnY.toBelow h.b h.yd h.ge k, h.ge, h.kw⟩
theorem LwAt.below {w : World} {kb : Nat} {TV : Array Value} {y : Yd} {Y : YS} {W W' : World} (h : LwAt w kb TV y Y W) (hb : Below W.heap.size W W') : LwAt w kb TV y Y W' :=
  ⟨tb_kept h.k hb, h.yd.below hb, h.b.trans (hb.mono h.b.size), h.ge, h.kw⟩
/-- A block of the law's own is turned. -/
theorem LwAt.own {w : World} {kb : Nat} {TV : Array Value} {y : Yd} {Y : YS} {W W' : World} {M : Nat → Prop} (h : LwAt w kb TV y Y W) (hM : ∀ b, M b → ¬ y.M b ∧ b ≠ y.u.g ∧ y.u.w0.heap.size ≤ b) (ho : Only M W W') : LwAt w kb TV y Y W' := by
  have hz := h.yd.ap.z
  have hg := h.ge; have hk := h.kw
  exact ⟨(ho.block _ (heap_lt h.k) (fun hm => by have := (hM _ hm).2.2; omega)).trans h.k, h.yd.offs hM ho, h.b.trans (ho.below h.b.size (fun i hi hm => by have := (hM _ hm).2.2; omega)), hg, hk⟩
/-- The moves of a frame lie where they lay, off the yard. -/
theorem mvs_off {w W : World} {y : Yd} {Y : YS} {vl : Value} {ms : List MV} (hm : MvsAt w vl ms) (h : YdAt W y Y) (hge : w.heap.size ≤ y.w0.heap.size) : ∀ b off n c, vl = .slice (some ⟨b, off, none⟩) n c → 0 < ms.length → ¬ y.M b := fun b off n c e h0 hM => by
  obtain ⟨⟨a, c', e', _, _, hs⟩, _⟩ := hm
  obtain ⟨b2, off2, e2, hb, _⟩ := hs.at h0
  subst e2
  rw [e'] at e
  cases e
  have h1 := (h.M_ge _ hM).1
  have h2 := h.ap.z
  omega
theorem clear_no {T : Tab} {tn : Nat → TN} (hc : checkE T = 0) {i : Nat} (hi : i < T.pts.length) (h : clearB T tn (T.pts.getD i 0) = false) : onN T tn (T.pts.getD i 0) T.rts.length ≠ 0 := by
  have hp := (ckOk hc).pt i hi
  intro h0
  unfold clearB at h
  rw [decide_eq_true hp.1, decide_eq_true hp.2, h0] at h
  cases h
end Go.Proofs.Ytnjeiigdfdjccaa
