/- Trains: the iterator. -/
import Derived.Test.YtnjeiigdfdjccaaYrdK
import Derived.Test.YtnjeiigdfdjccaaSeqZ
import Derived.Test.YtnjeiigdfdjccaaCln
import Derived.Sort.LoopGhostIn
import Derived.Outline
import Derived.Sort.CutIn
namespace Go.Proofs.Ytnjeiigdfdjccaa
open Go.RowKit Go.Shelf
set_option linter.unusedVariables false
set_option linter.unusedSimpArgs false
attribute [local go_sem] Oper.semAt_some
theorem info_clone_tn : (Try.prog.info? 83).map (fun i => (i.zero, i.size, i.bytes)) = some (some (.agg #[.bool false, .bool false, .int .i64 0, .int .i64 0]), 4, 24) := by kernel_rfl
set_option maxHeartbeats 2000000 in
theorem clone_tn (a : Option Addr) (n c : Nat) (V : Nat → Value) (w : World) (hV : ∀ i, i < n * 4 → (V i).oneCell' = true) (hn : n ≤ 1000000) (hs : SliceAt w a (n * 4) V) :
    Calls Try.prog 28 #[.slice a n c] w (ClnP w 83 n 4 V) := by
  cases a with
  | none =>
    have hn0 : n * 4 = 0 := hs.elim id (fun h => by obtain ⟨b, off, h, _⟩ := h; cases h)
    obtain rfl : n = 0 := by omega
    have hk : ∀ w : World, (binOp .eql 73 (.slice none 0 c) (.slice none 0 0)).run Try.prog w = .ok (.bool true) w := fun w => Lib.run_eql_slice_nil w _ _ none 0 c 0 0 Try.underlying73
    clear hs hV
    go_enter Try.func28, Try.ntmps28
    go_wp2_with fail
    go_ret
    exact ⟨_, rfl, ⟨0, ⟨none, 0, rfl, Nat.le_refl _, by unfold maxLen; omega, fun hp => absurd hp (by omega)⟩, fun hp => absurd hp (by omega)⟩, Below.refl _ _⟩
  | some ad =>
    obtain ⟨i0, hi, hz0, hz1, hz2⟩ := tb_info info_clone_tn
    have HIn := Lib.hid hi; have HZ0 := Lib.hid hz0; have HZ1 := Lib.hid hz1; have HZ2 := Lib.hid hz2
    have HS := Lib.hid hs
    have HV := Lib.hid hV
    clear hi hz0 hz1 hz2 hs hV
    have hk : ∀ w : World, (binOp .eql 73 (.slice (some ad) n c) (.slice none 0 0)).run Try.prog w = .ok (.bool false) w := fun w => Lib.run_eql_slice_nil w _ _ (some ad) n c 0 0 Try.underlying73
    go_enter Try.func28, Try.ntmps28
    have hown : ((w.alloc (.cells #[] 83)).ownsRow w.heap.size 83 4 (.slice (some ⟨w.heap.size, 0, none⟩) 0 0) 0 []) := ⟨rfl, .inr ⟨w.heap.size, 0, #[], rfl, Nat.le_refl _, heap_alloc_new _ _, Nat.le_refl _, by unfold maxLen; omega, rfl, rfl⟩⟩
    go_wp2_with (at_builtin; refine wpList_append_own _ rfl _ _ 73 rfl w.heap.size 83 i0 (.agg #[.bool false, .bool false, .int .i64 0, .int .i64 0]) 4 24 Try.underlying73 HIn.out HZ0.out HZ1.out HZ2.out rfl (by decide) _ 0 [] rfl hown ad n c ((List.range (n * 4)).map V) rfl (by simp) ?c1 ?c2 ?c3 ?c4 ?c5 ?_)
    case c1 =>
      intro j u h
      have hj : j < n * 4 := by
        by_cases e : j < n * 4
        · exact e
        · rw [List.getElem?_eq_none (by simp; omega)] at h; cases h
      obtain ⟨b', off, e, hlt, hc⟩ := HS.out.at (by omega)
      cases e
      rw [Go.WideShapes.add_plain, (Below.refl _ w).alloc (Nat.le_refl _) _ |>.cell hlt, hc j hj]
      rw [List.getElem?_map, List.getElem?_range hj] at h
      exact h
    case c2 => intro u hu; obtain ⟨i, hi, rfl⟩ := List.mem_map.1 hu; exact HV.out i (by simpa using hi)
    case c3 => unfold maxLen; omega
    case c4 => omega
    case c5 => simp
    intro v' w1 hown1 hgr _
    have hB : Hid (Below w.heap.size w w1) := ((Below.refl _ w).alloc (Nat.le_refl _) _).grown hgr (by simp) (fun k e => by simp [Value.ownBlock] at e; omega)
    try rw [Nat.zero_add] at hown1
    try rw [List.nil_append] at hown1
    have hSl := Lib.hid (SlN.of_own (V := V) hown1 (fun i hi => by rw [List.getElem?_map, List.getElem?_range (by omega)]; rfl))
    clear hown1 hgr hown hk
    go_wp2_with fail
    go_ret
    exact ⟨_, rfl, hSl.out, hB.out⟩
/-- The routes on which there is a train. -/
def onIdx (tn : Nat → TN) : Nat → List Nat
  | 0 => []
  | k + 1 => if (tn k).is then onIdx tn k ++ [k] else onIdx tn k
theorem onIdx_succ (tn : Nat → TN) (k : Nat) : onIdx tn (k + 1) = if (tn k).is then onIdx tn k ++ [k] else onIdx tn k := rfl
theorem onIdx_le (tn : Nat → TN) : ∀ {k m : Nat}, k ≤ m → ∃ l, onIdx tn m = onIdx tn k ++ l
  | k, 0, h => by
    obtain rfl : k = 0 := Nat.le_zero.1 h
    exact ⟨[], (List.append_nil _).symm⟩
  | k, m + 1, h => by
    by_cases e : k = m + 1
    · subst e; exact ⟨[], (List.append_nil _).symm⟩
    · obtain ⟨l, hl⟩ := onIdx_le tn (k := k) (m := m) (by omega)
      rw [onIdx_succ]
      split
      · exact ⟨l ++ [m], by rw [hl, List.append_assoc]⟩
      · exact ⟨l, hl⟩
theorem onIdx_at {tn : Nat → TN} {k m : Nat} (h : k < m) (hi : (tn k).is = true) : (onIdx tn k).length < (onIdx tn m).length ∧ (onIdx tn m).getD (onIdx tn k).length 0 = k := by
  obtain ⟨l, hl⟩ := onIdx_le tn (show k + 1 ≤ m by omega)
  have e : onIdx tn (k + 1) = onIdx tn k ++ [k] := if_pos hi
  rw [hl, e, List.getD_eq_getElem?_getD]
  simp
theorem onIdx_lt {tn : Nat → TN} : ∀ {m x : Nat}, x ∈ onIdx tn m → x < m ∧ (tn x).is = true
  | 0, x, h => by cases h
  | m + 1, x, h => by
    unfold onIdx at h
    split at h
    · rename_i hi
      rcases List.mem_append.1 h with h | h
      · have := onIdx_lt h; exact ⟨by omega, this.2⟩
      · rcases List.mem_cons.1 h with rfl | h
        · exact ⟨by omega, hi⟩
        · cases h
    · have := onIdx_lt h; exact ⟨by omega, this.2⟩
theorem onIdx_none {tn : Nat → TN} : ∀ {m : Nat}, (∀ n, n < m → (tn n).is = false) → onIdx tn m = []
  | 0, _ => rfl
  | m + 1, h => by
    unfold onIdx
    rw [if_neg (by rw [h m (by omega)]; decide)]
    exact onIdx_none fun n hn => h n (by omega)
def encT (tn : Nat → TN) (N x : Nat) : Array Value := #[.agg #[.int .i64 (((onIdx tn N).getD x 0 : Nat) : Int), .int .i64 ((tn ((onIdx tn N).getD x 0)).tl : Int), .int .i64 ((tn ((onIdx tn N).getD x 0)).hd : Int)]]
/-- What is kept from round to round. -/
structure TS (cb : Nat) (m : Nat) (tn : Nat → TN) (W : World) (Fb : Nat → Prop) (V : World) : Prop where
  ok : FbOk (fun _ => False) Fb W V
  sz : W.heap.size ≤ V.heap.size
  cf : Fb cb
  ro : RowAt V cb 83 (m * 4) (tnV tn)
theorem FbOk.extend {Kb Fb : Nat → Prop} {W A B : World} (h : FbOk Kb Fb W A) (hs : W.heap.size ≤ A.heap.size) (hb : A.heap.size ≤ B.heap.size) : FbOk Kb (extF Fb A B) W B := by
  rintro b (hb' | hb')
  · exact ⟨Nat.lt_of_lt_of_le (h b hb').1 hb, (h b hb').2⟩
  · exact ⟨hb'.2, .inr (Nat.le_trans hs hb'.1)⟩
theorem TS.below {cb m : Nat} {tn : Nat → TN} {W : World} {Fb : Nat → Prop} {A B : World} (h : TS cb m tn W Fb A) (hb : Below A.heap.size A B) : TS cb m tn W (extF Fb A B) B :=
  ⟨h.ok.extend h.sz hb.size, Nat.le_trans h.sz hb.size, .inl h.cf, h.ro.same (hb.block _ h.ro.lt)⟩
theorem TS.keep {cb m : Nat} {tn : Nat → TN} {W : World} {Fb : Nat → Prop} {A B : World} (h : TS cb m tn W Fb A) (hk : KeepF Fb A B) (hs : A.heap.size ≤ B.heap.size) : TS cb m tn W Fb B :=
  ⟨fun b hb => ⟨Nat.lt_of_lt_of_le (h.ok b hb).1 hs, (h.ok b hb).2⟩, Nat.le_trans h.sz hs, h.cf, by
    obtain ⟨cs, h1, h2, h3⟩ := h.ro
    exact ⟨cs, hk _ _ h.cf h1, h2, h3⟩⟩
theorem tnV_one (tn : Nat → TN) (q : Nat) : (tnV tn q).oneCell' = true := by unfold tnV; split <;> (try rfl) <;> split <;> (try rfl) <;> split <;> rfl
set_option maxRecDepth 100000 in
set_option maxHeartbeats 4000000 in
theorem trains1_in (n : Nat) (y : Yd) (Y : YS) (lb : Nat) (w : World) (H : YdAt w y Y) (hN : y.u.T.rts.length ≤ 16) (hN0 : 0 < y.u.T.rts.length)
    (hL : w.heap[lb]? = some (.cells #[.pointer (some ⟨y.g, 0, none⟩)] 29 (0, 0))) :
    SeqC Fence.wide n Try.prog 27 #[.pointer (some ⟨lb, 0, none⟩)] (encT Y.tn y.u.T.rts.length) (fun _ => False) (onIdx Y.tn y.u.T.rts.length).length w := by
  intro l J Jx W hW hJ hJx h0 hY
  have HY1 : Hid (YdAt W y Y) := H.below hW
  have HLB := Lib.hid (kept hL hW)
  have H0 := Lib.hid h0
  have HJ := Lib.hid hJ
  have HY := Lib.hid hY
  have l0 := cell_row (j := 0) HLB.out rfl
  have gA := cell_row (j := 10) HY1.out.obj rfl
  have ll := heap_lt HLB.out; have lg := heap_lt HY1.out.obj
  have HCL := Lib.hid (clone_tn (some ⟨y.tb, 0, none⟩) y.u.T.rts.length y.u.T.rts.length (tnV Y.tn) W (fun i _ => tnV_one _ _) (by omega) (.inr ⟨y.tb, 0, rfl, HY1.out.ts.lt, fun i hi => by rw [Nat.zero_add]; exact HY1.out.ts.cell hi⟩))
  have P0 : Hid (FbOk (fun _ => False) (fun _ => False) W W) := fun b hb => hb.elim
  clear H hL hW h0 hJ hY hJx
  generalize y.u.T.rts.length = m at *
  refine callsIn_of_wp Try.func27 rfl trivial ?_ rfl
  simp only [Try.ntmps27, List.size_toArray, List.length_cons, List.length_nil, Nat.reduceAdd, Nat.reduceSub, Array.replicate_succ, Array.replicate_zero, List.push_toArray, List.append_toArray, List.nil_append, List.cons_append]
  gi_wp2_with (fail)
  refine ⟨trivial, fun h => (by cases h), (callsIn_wide.2 HCL.out).mono ?_⟩
  rintro e w2 ⟨v, rfl, ⟨cb, ⟨a, c, rfl, hc1, hc2, hc3⟩, hc4⟩, hb⟩
  obtain ⟨rfl, hro⟩ := hc3 hN0
  have B2 := Lib.hid hb
  have J2 := Lib.hid (HJ.out _ _ _ _ H0.out hb)
  have T2 : Hid (TS cb m Y.tn W (extF (fun _ => False) W w2) w2) := ⟨P0.out.extend (Nat.le_refl _) hb.size, hb.size, .inr (hc4 hN0), hro⟩
  clear hro hc4 hc3 hb HCL H0 P0 l0 gA ll lg
  generalize extF (fun _ => False) W w2 = F2 at *
  unfold maxLen at hc2
  gi_wp2_with (fail)
  gi_loopw [13] (fun i wr => ∃ k : Nat, k ≤ m ∧ i = .int .i64 k ∧ ∃ Fb, J (onIdx Y.tn k).length Fb wr ∧ TS cb m Y.tn W Fb wr) (fun i _ => m - (intOf i).toNat)
  case atStart => exact ⟨0, Nat.zero_le _, rfl, _, J2.out, T2.out⟩
  case round =>
    clear J2 T2 B2
    obtain ⟨k, hk, rfl, Fb, hj, ht⟩ := hrel
    obtain ⟨w4, rfl⟩ : ∃ w4 : World, w4 = wr := ⟨_, rfl⟩
    have J4 := Lib.hid hj; have T4 := Lib.hid ht
    clear hj ht
    by_cases hlt : k < m
    case neg =>
      obtain rfl : m = k := by omega
      gi_wp2_with (fail)
      go_end0
      exact ⟨⟨_, rfl⟩, .inl ⟨_, J4.out⟩⟩
    case pos =>
    have x0 := T4.out.ro.cell (i := k * 4) (by omega)
    have x1 := T4.out.ro.cell (i := k * 4 + 1) (by omega)
    have x2 := T4.out.ro.cell (i := k * 4 + 2) (by omega)
    have x3 := T4.out.ro.cell (i := k * 4 + 3) (by omega)
    rw [tnV_0] at x0; rw [tnV_1] at x1; rw [tnV_2] at x2; rw [tnV_3] at x3
    have HSU := Lib.hid (onIdx_succ Y.tn k)
    have HAT := Lib.hid (onIdx_at (tn := Y.tn) hlt)
    have lc := T4.out.ro.lt
    obtain ⟨p, hp⟩ : ∃ p, p = Y.tn k := ⟨_, rfl⟩
    rw [← hp] at x0 x1 x2 x3 HSU HAT
    have HPP := Lib.hid hp
    clear hp
    obtain ⟨is, mv, tl, hd⟩ := p
    dsimp only at x0 x1 x2 x3 HSU HAT
    obtain ⟨w5, hw5⟩ : ∃ x, x = w4.alloc (.cells #[.bool is, .bool mv, .int .i64 (tl : Int), .int .i64 (hd : Int)] 83) := ⟨_, rfl⟩
    have B5 : Hid (Below w4.heap.size w4 w5) := by rw [hw5]; exact alloc_below _ _
    have K5 : Hid (w5.heap[w4.heap.size]? = some (.cells #[.bool is, .bool mv, .int .i64 (tl : Int), .int .i64 (hd : Int)] 83 (0, 0))) := by rw [hw5]; exact heap_alloc_new _ _
    have HW5 := Lib.hid hw5
    have T5 := Lib.hid (T4.out.below B5.out)
    have J5 := Lib.hid (HJ.out _ Fb w4 w5 J4.out B5.out)
    clear hw5
    generalize extF Fb w4 w5 = F5 at *
    gi_upto_region 4 with (fail)
    rw [← HW5.out]
    generalize hg5 : w4.heap.size = g5 at *
    clear x0 x1 x2 x3 lc
    have z0 := cell_row (j := 0) K5.out rfl; have z2 := cell_row (j := 2) K5.out rfl; have z3 := cell_row (j := 3) K5.out rfl
    have lz := heap_lt K5.out
    cases is
    case false =>
      have hs : Hid (onIdx Y.tn (k + 1) = onIdx Y.tn k) := HSU.out
      gi_wp2_with (fail)
      refine ⟨fun f h => (by cases h), ?_⟩
      gi_wp2_with (fail)
      go_roundw
      case rel => exact ⟨k + 1, by omega, by go_num, _, by rw [hs.out]; exact J5.out, T5.out⟩
      case measure => simp [intOf]; omega
    case true =>
    have hs : Hid ((onIdx Y.tn (k + 1)).length = (onIdx Y.tn k).length + 1) := by show _ = _; rw [HSU.out]; simp
    have HAT2 := Lib.hid (HAT.out rfl)
    have HEN : Hid (encT Y.tn m (onIdx Y.tn k).length = #[.agg #[.int .i64 (k : Int), .int .i64 (tl : Int), .int .i64 (hd : Int)]]) := by
      show _ = _
      unfold encT
      rw [HAT2.out.2, ← HPP.out]
    obtain ⟨fn, tmps, assign, body, hy, hR⟩ := HY.out _ F5 w5 HAT2.out.1 T5.out.ok J5.out
    rw [HEN.out] at hy
    gi_wp2_with (fail)
    refine ⟨fun h => (by cases h), hR.mono ?_⟩
    clear hy hR
    rintro e w8 (⟨rfl, q1, q2, q3⟩ | ⟨rfl, q1⟩)
    · have J8 := Lib.hid q1
      have T8 := Lib.hid (T5.out.keep q2 q3)
      clear q1 q2 q3 z0 z2 z3 lz
      gi_wp2_with (fail)
      go_roundw
      case rel => exact ⟨k + 1, by omega, by go_num, _, by rw [hs.out]; exact J8.out, T8.out⟩
      case measure => simp [intOf]; omega
    · have JX := Lib.hid q1
      clear q1 z0 z2 z3 lz
      gi_wp2_with (fail)
      refine bodyPost_ret (results_none rfl _ _ _) rfl ?_
      exact ⟨⟨_, rfl⟩, .inr ⟨_, _, Nat.succ_pos _, HAT2.out.1, JX.out⟩⟩
/-- Of no yard there are none. -/
theorem trains1_nil (n : Nat) (lb : Nat) (w : World) (hL : w.heap[lb]? = some (.cells #[.pointer none] 29 (0, 0))) :
    SeqC Fence.wide n Try.prog 27 #[.pointer (some ⟨lb, 0, none⟩)] (fun _ => #[.int .i64 0]) (fun _ => False) 0 w := by
  intro l J Jx W hW hJ hJx h0 hY
  have HLB := Lib.hid (kept hL hW)
  have H0 := Lib.hid h0
  have l0 := cell_row (j := 0) HLB.out rfl
  have ll := heap_lt HLB.out
  clear hL hW h0 hJ hY hJx
  refine callsIn_of_wp Try.func27 rfl trivial ?_ rfl
  simp only [Try.ntmps27, List.size_toArray, List.length_cons, List.length_nil, Nat.reduceAdd, Nat.reduceSub, Array.replicate_succ, Array.replicate_zero, List.push_toArray, List.append_toArray, List.nil_append, List.cons_append]
  gi_wp2_with (fail)
  refine bodyPost_ret (results_none rfl _ _ _) rfl ?_
  exact ⟨⟨_, rfl⟩, .inl ⟨_, H0.out⟩⟩
/-- Trains: a function over a box of its own. -/
theorem trains_any (p : Value) (hp : p = .pointer none ∨ ∃ g, p = .pointer (some ⟨g, 0, none⟩)) (w : World) : Calls Try.prog 13 #[p] w fun e w' =>
    e = .returned (.func (.func 27) #[] #[.pointer (some ⟨w.heap.size, 0, none⟩)]) ∧ w'.heap[w.heap.size]? = some (.cells #[p] 29 (0, 0)) ∧ Below w.heap.size w w' := by
  have HK : Hid ((w.alloc (.cells #[p] 29)).heap[w.heap.size]? = some (.cells #[p] 29 (0, 0))) := heap_alloc_new _ _
  have HB : Hid (Below w.heap.size w (w.alloc (.cells #[p] 29))) := alloc_below _ _
  rcases hp with rfl | ⟨g, rfl⟩
  all_goals (
    go_enter Try.func13, Try.ntmps13
    go_wp2_with fail
    go_ret
    exact ⟨rfl, HK.out, HB.out⟩)
end Go.Proofs.Ytnjeiigdfdjccaa
