/- An automaton as it lies; small calls. -/
import Derived.Test.YtnjeiigdfdjccaaAutPl
import Derived.Test.YtnjeiigdfdjccaaTabK
import Derived.Laws.BitsAllLaws
import Derived.IntWalk
namespace Go.Proofs.Ytnjeiigdfdjccaa
open Go.RowKit
set_option linter.unusedVariables false
set_option linter.unusedSimpArgs false
theorem and_bit1 (w n : Nat) (h : w < 4294967296) : bits .and .u32 ((w : Int) / 2 ^ n) 1 = if w.testBit n then 1 else 0 := by
  have h1 : w / 2 ^ n < 4294967296 := Nat.lt_of_le_of_lt (Nat.div_le_self _ _) h
  have h2 := u32_and_nat (w / 2 ^ n) 1 h1 (by omega)
  rw [nat_mask1] at h2
  have h3 : w.testBit n = decide (w / 2 ^ n % 2 = 1) := Nat.testBit_eq_decide_div_mod_eq
  rw [h3]
  have e : ((w : Int) / 2 ^ n) = ((w / 2 ^ n : Nat) : Int) := by simp
  rw [e]
  have e1 : (1 : Int) = ((1 : Nat) : Int) := rfl
  rw [e1, h2]
  have := Nat.mod_two_eq_zero_or_one (w / 2 ^ n)
  by_cases hb : w / 2 ^ n % 2 = 1
  · rw [hb]; simp
  · rw [show w / 2 ^ n % 2 = 0 by omega]; simp
theorem testBit_min (x n : Nat) (h : x < 4294967296) : x.testBit (min n 32) = x.testBit n := by
  by_cases hn : n ≤ 32
  · rw [Nat.min_eq_left hn]
  · rw [Nat.min_eq_right (by omega), Nat.testBit_lt_two_pow (show x < 2 ^ 32 by omega), Nat.testBit_lt_two_pow (Nat.lt_of_lt_of_le (show x < 2 ^ 32 by omega) (Nat.pow_le_pow_right (by omega) (by omega)))]
theorem and_bit (x n : Nat) (h : x < 4294967296) : (bits .and .u32 ((x : Int) / 2 ^ min n 32) 1 == 1) = x.testBit n := by
  rw [and_bit1 x _ h, testBit_min x n h]
  cases x.testBit n <;> rfl
set_option maxHeartbeats 1000000 in
theorem bit_any (x : Nat) (n : Nat) (w : World) (hx : x < 4294967296) :
    Calls Try.prog 63 #[.int .u32 (x : Int), .int .i64 (n : Int)] w fun e w' => e = .returned (.bool (x.testBit n)) ∧ w' = w := by
  have hb := Lib.hid (and_bit x n hx)
  go_enter Try.func63, Try.ntmps63
  go_wp2_with fail
  rw [hb.out]
  go_ret
  exact ⟨rfl, by first | trivial | rfl⟩
/-- A feed. -/
structure FD.Ok (f : FD) : Prop where
  cl : f.cl < 4294967296
  no : f.no < 4294967296
  re : f.re < 4294967296
  ak : f.ak < 4294967296
  ca : f.ca < 4294967296
  rq : f.rq < 4294967296
/-- An automaton: a world in which its table lay; its own blocks; its values. -/
structure Au where
  w0 : World
  (g rb pb : Nat)
  (vp vr vrs vps : Value)
  T : Tab
def rcV (r : RS) (j : Nat) : Value := if j = 0 then .int .u8 (r.ph : Int) else if j = 1 then .int .u16 (r.tm : Int) else if j = 2 then .int .u32 (r.us : Int) else .int .u32 (r.rl : Int)
def rsV (R : Nat → RS) (q : Nat) : Value := rcV (R (q / 4)) (q % 4)
theorem rsV_j (R : Nat → RS) (n j : Nat) (hj : j < 4) : rsV R (n * 4 + j) = rcV (R n) j := by unfold rsV; rw [show (n * 4 + j) / 4 = n by omega, show (n * 4 + j) % 4 = j by omega]
theorem rsV_0 (R : Nat → RS) (n : Nat) : rsV R (n * 4) = .int .u8 ((R n).ph : Int) := rsV_j R n 0 (by omega)
theorem rsV_1 (R : Nat → RS) (n : Nat) : rsV R (n * 4 + 1) = .int .u16 ((R n).tm : Int) := rsV_j R n 1 (by omega)
theorem rsV_2 (R : Nat → RS) (n : Nat) : rsV R (n * 4 + 2) = .int .u32 ((R n).us : Int) := rsV_j R n 2 (by omega)
theorem rsV_3 (R : Nat → RS) (n : Nat) : rsV R (n * 4 + 3) = .int .u32 ((R n).rl : Int) := rsV_j R n 3 (by omega)
def psV (C : Nat → Nat) (q : Nat) : Value := .int .u8 (C q : Int)
def Au.row (u : Au) : Array Value := #[.int .i64 u.T.tracks, u.vp, .int .i64 u.T.sigs, u.vr, u.vrs, u.vps]
structure AutoAt (w : World) (u : Au) (S : AS) : Prop where
  obj : w.heap[u.g]? = some (.cells #[.int .i64 u.T.tracks, u.vp, .int .i64 u.T.sigs, u.vr, u.vrs, u.vps] 113 (0, 0))
  tp : IntsAt u.w0 u.vp u.T.pts
  tr : RtsAt u.w0 u.vr u.T.rts
  bel : Below u.w0.heap.size u.w0 w
  rs : ∃ c, u.vrs = .slice (some ⟨u.rb, 0, none⟩) u.T.rts.length c ∧ u.T.rts.length ≤ c ∧ c ≤ maxLen ∧ RowAt w u.rb 43 (u.T.rts.length * 4) (rsV S.R)
  ps : SlAt w u.vps u.pb 5 u.T.pts.length (psV S.C)
  gB : u.w0.heap.size ≤ u.g
  rB : u.w0.heap.size ≤ u.rb
  pB : u.w0.heap.size ≤ u.pb
  gr : u.g ≠ u.rb
  gp : u.g ≠ u.pb
  rp : u.rb ≠ u.pb
  pl : u.pb < w.heap.size
/-- The blocks that a step turns. -/
def Au.M (u : Au) (b : Nat) : Prop := b = u.rb ∨ b = u.pb
theorem AutoAt.below {w w' : World} {u : Au} {S : AS} (h : AutoAt w u S) (hb : Below w.heap.size w w') : AutoAt w' u S := by
  obtain ⟨c, k1, k2, k3, k4⟩ := h.rs
  exact ⟨(hb.block _ (heap_lt h.obj)).trans h.obj, h.tp, h.tr, h.bel.trans (hb.mono h.bel.size), ⟨c, k1, k2, k3, k4.same (hb.block _ k4.lt)⟩, h.ps.same (fun hp => hb.block _ (h.ps.lt hp)), h.gB, h.rB, h.pB, h.gr, h.gp, h.rp, Nat.lt_of_lt_of_le h.pl hb.size⟩
theorem AutoAt.rlt {w : World} {u : Au} {S : AS} (h : AutoAt w u S) : u.rb < w.heap.size := by obtain ⟨c, k1, k2, k3, k4⟩ := h.rs; exact k4.lt
theorem AutoAt.drew {w : World} {u : Au} {S : AS} (h : AutoAt w u S) : AutoAt w.drew u S := h.below ⟨rfl, rfl, rfl, Nat.le_refl _, fun _ _ => rfl⟩
/-- The routes' cells. -/
theorem AutoAt.rcell {w : World} {u : Au} {S : AS} (h : AutoAt w u S) {n : Nat} (hn : n < u.T.rts.length) : w.cell? ⟨u.rb, n * 4, none⟩ = some (.int .u8 ((S.R n).ph : Int)) ∧ w.cell? ⟨u.rb, n * 4 + 1, none⟩ = some (.int .u16 ((S.R n).tm : Int)) ∧ w.cell? ⟨u.rb, n * 4 + 2, none⟩ = some (.int .u32 ((S.R n).us : Int)) ∧ w.cell? ⟨u.rb, n * 4 + 3, none⟩ = some (.int .u32 ((S.R n).rl : Int)) ∧ ∀ o, w.frozen? ⟨u.rb, o, none⟩ = false := by
  obtain ⟨c, k1, k2, k3, k4⟩ := h.rs
  refine ⟨?_, ?_, ?_, ?_, fun o => k4.frozen o⟩
  · rw [← rsV_0]; exact k4.cell (by omega)
  · rw [← rsV_1]; exact k4.cell (by omega)
  · rw [← rsV_2]; exact k4.cell (by omega)
  · rw [← rsV_3]; exact k4.cell (by omega)
theorem clear_any (u : Au) (f : FD) (x : Int) (w : World) (hf : f.cl < 4294967296) (hx : 0 ≤ x) :
    Calls Try.prog 62 #[.agg #[.pointer (some ⟨u.g, 0, none⟩), .int .u32 (f.cl : Int), .int .u32 (f.no : Int), .int .u32 (f.re : Int), .int .u32 (f.ak : Int), .int .u32 (f.ca : Int), .int .u32 (f.rq : Int)], .int .i64 x] w fun e w' => e = .returned (.bool (bt f.cl x)) ∧ Below w.heap.size w w' := by
  obtain ⟨n, rfl⟩ := Int.eq_ofNat_of_zero_le hx
  have HB := Lib.hid (fun W => bit_any f.cl n W hf)
  show Calls _ _ _ _ fun e w' => e = .returned (.bool (f.cl.testBit n)) ∧ _
  have B1 : Hid (Below w.heap.size w (w.alloc (.cells #[.pointer (some ⟨u.g, 0, none⟩), .int .u32 (f.cl : Int), .int .u32 (f.no : Int), .int .u32 (f.re : Int), .int .u32 (f.ak : Int), .int .u32 (f.ca : Int), .int .u32 (f.rq : Int)] 116))) := tb_alloc_below _ _
  generalize f.cl.testBit n = r at *
  go_enter Try.func62, Try.ntmps62
  go_wp2_with fail
  (with_reducible refine (HB.out _).mono ?_)
  rintro e w2 ⟨rfl, rfl⟩
  go_wp2_with fail
  go_ret
  exact ⟨rfl, B1.out⟩
theorem command_any (p : Int × Bool) (w : World) :
    Calls Try.prog 67 #[.agg #[.int .i64 p.1, .bool p.2]] w fun e w' => e = .returned (.int .u8 (needP p : Int)) ∧ Below w.heap.size w w' := by
  obtain ⟨a, b⟩ := p
  simp only
  have B1 : Hid (Below w.heap.size w (w.alloc (.cells #[.int .i64 a, .bool b] 107))) := tb_alloc_below _ _
  cases b
  case true =>
    go_enter Try.func67, Try.ntmps67
    go_wp2_with fail
    go_ret
    exact ⟨rfl, B1.out⟩
  case false =>
    go_enter Try.func67, Try.ntmps67
    go_wp2_with fail
    go_ret
    exact ⟨rfl, B1.out⟩
/-- all -/
theorem all1_int (x : Int) (g : Nat) (ba lb : Array Value) (r : Bool) (bs : Nat) (w : World) (eg : ∀ args w, (callFunc g args).run Try.prog w = .ok (.enter g args) w) (hs : w.heap[bs]? = some (.cells #[.func (.func g) ba lb] 45 (0, 0)))
    (hc : ∀ W, Below w.heap.size w W → Calls Try.prog g (ba ++ #[.int .i64 x] ++ lb) W fun e w' => e = .returned (.bool r) ∧ Below W.heap.size W w') :
    Calls Try.prog 82 #[.int .i64 x, .pointer (some ⟨bs, 0, none⟩)] w fun e w' => e = .returned (.bool (!r)) ∧ Below w.heap.size w w' := by
  have HC := Lib.hid hc
  have s0 := cell_row (j := 0) hs rfl
  have l0 := heap_lt hs
  clear hs hc
  go_enter Try.func82, Try.ntmps82
  go_wp2_with fail
  have BY : Hid (Below w.heap.size w (w)) := Below.refl _ _
  refine (HC.out _ BY.out).mono ?_
  rintro e w2 ⟨rfl, hb⟩
  have B2 := Lib.hid (BY.out.trans (hb.mono BY.out.size))
  clear hb
  go_wp2_with fail
  go_ret
  exact ⟨rfl, B2.out⟩
theorem all1_pt (x : Int × Bool) (g : Nat) (ba lb : Array Value) (r : Bool) (bs : Nat) (w : World) (eg : ∀ args w, (callFunc g args).run Try.prog w = .ok (.enter g args) w) (hs : w.heap[bs]? = some (.cells #[.func (.func g) ba lb] 129 (0, 0)))
    (hc : ∀ W, Below w.heap.size w W → Calls Try.prog g (ba ++ #[.agg #[.int .i64 x.1, .bool x.2]] ++ lb) W fun e w' => e = .returned (.bool r) ∧ Below W.heap.size W w') :
    Calls Try.prog 84 #[.agg #[.int .i64 x.1, .bool x.2], .pointer (some ⟨bs, 0, none⟩)] w fun e w' => e = .returned (.bool (!r)) ∧ Below w.heap.size w w' := by
  have HC := Lib.hid hc
  have s0 := cell_row (j := 0) hs rfl
  have l0 := heap_lt hs
  clear hs hc
  go_enter Try.func84, Try.ntmps84
  go_wp2_with fail
  have BY : Hid (Below w.heap.size w (w.alloc (.cells #[.int .i64 x.1, .bool x.2] 107))) := tb_alloc_below _ _
  refine (HC.out _ BY.out).mono ?_
  rintro e w2 ⟨rfl, hb⟩
  have B2 := Lib.hid (BY.out.trans (hb.mono BY.out.size))
  clear hb
  go_wp2_with fail
  go_ret
  exact ⟨rfl, B2.out⟩
theorem all_not_any {α : Type} (l : List α) (p : α → Bool) : (!l.any fun x => !p x) = l.all p := by
  rw [List.any_eq_not_all_not, Bool.not_not]
  congr 1
  funext x
  rw [Bool.not_not]
theorem all_int (v : Value) (l : List (Int)) (g : Nat) (ba lb : Array Value) (p : Int → Bool) (w : World) (h : IntsAt w v l) (eg : ∀ args w, (callFunc g args).run Try.prog w = .ok (.enter g args) w)
    (hp : ∀ i, i < l.length → ∀ W, Below w.heap.size w W → Calls Try.prog g (ba ++ #[.int .i64 (l.getD i 0)] ++ lb) W fun e w' => e = .returned (.bool (p (l.getD i (0)))) ∧ Below W.heap.size W w') :
    Calls Try.prog 68 #[v, .func (.func g) ba lb] w fun e w' => e = .returned (.bool (l.all p)) ∧ Below w.heap.size w w' := by
  obtain ⟨a9, c9, hv9, _, _, _⟩ := h.at_
  subst hv9
  obtain ⟨v, hv0⟩ : ∃ v, v = Value.slice a9 l.length c9 := ⟨_, rfl⟩
  rw [← hv0] at h ⊢
  obtain ⟨w1, hw1⟩ : ∃ w1, w1 = w.alloc (.cells #[.func (.func g) ba lb] 45) := ⟨_, rfl⟩
  have B1 : Hid (Below w.heap.size w w1) := by rw [hw1]; exact tb_alloc_below _ _
  have K1 : Hid (w1.heap[w.heap.size]? = some (.cells #[.func (.func g) ba lb] 45 (0, 0))) := by rw [hw1]; exact heap_alloc_new _ _
  have HW1 := Lib.hid hw1
  have HI : Hid (Calls Try.prog 57 #[v, .func (.func 82) #[] #[.pointer (some ⟨w.heap.size, 0, none⟩)]] w1 fun e w' => e = .returned (.bool (l.any fun x => !p x)) ∧ Below w1.heap.size w1 w') :=
    containsF_int v l _ _ (fun x => !p x) w1 (h.below B1.out) (enters_of Try.func82 (by kernel_rfl) rfl) (fun i hi W hW => all1_int _ g ba lb _ _ W eg (tb_kept K1.out hW) (fun V hV => hp i hi V (B1.out.trans ((hW.trans (hV.mono hW.size)).mono B1.out.size))))
  have HE := Lib.hid (all_not_any l p)
  clear hw1 h hp eg K1
  rw [← HE.out]
  generalize (l.any fun x => !p x) = r at *
  subst hv0
  go_enter Try.func68, Try.ntmps68
  go_upto_region 1 with fail
  rw [← HW1.out]
  go_wp2_with fail
  refine HI.out.mono ?_
  rintro e w2 ⟨rfl, hb⟩
  have B2 := Lib.hid (B1.out.trans (hb.mono B1.out.size))
  clear hb
  go_wp2_with fail
  go_ret
  exact ⟨rfl, B2.out⟩
theorem all_pt (v : Value) (l : List (Int × Bool)) (g : Nat) (ba lb : Array Value) (p : Int × Bool → Bool) (w : World) (h : PtsAt w v l) (eg : ∀ args w, (callFunc g args).run Try.prog w = .ok (.enter g args) w)
    (hp : ∀ i, i < l.length → ∀ W, Below w.heap.size w W → Calls Try.prog g (ba ++ #[.agg #[.int .i64 (l.getD i (0, false)).1, .bool (l.getD i (0, false)).2]] ++ lb) W fun e w' => e = .returned (.bool (p (l.getD i ((0, false))))) ∧ Below W.heap.size W w') :
    Calls Try.prog 69 #[v, .func (.func g) ba lb] w fun e w' => e = .returned (.bool (l.all p)) ∧ Below w.heap.size w w' := by
  obtain ⟨a9, c9, hv9, _, _, _⟩ := h.at_
  subst hv9
  obtain ⟨v, hv0⟩ : ∃ v, v = Value.slice a9 l.length c9 := ⟨_, rfl⟩
  rw [← hv0] at h ⊢
  obtain ⟨w1, hw1⟩ : ∃ w1, w1 = w.alloc (.cells #[.func (.func g) ba lb] 129) := ⟨_, rfl⟩
  have B1 : Hid (Below w.heap.size w w1) := by rw [hw1]; exact tb_alloc_below _ _
  have K1 : Hid (w1.heap[w.heap.size]? = some (.cells #[.func (.func g) ba lb] 129 (0, 0))) := by rw [hw1]; exact heap_alloc_new _ _
  have HW1 := Lib.hid hw1
  have HI : Hid (Calls Try.prog 83 #[v, .func (.func 84) #[] #[.pointer (some ⟨w.heap.size, 0, none⟩)]] w1 fun e w' => e = .returned (.bool (l.any fun x => !p x)) ∧ Below w1.heap.size w1 w') :=
    containsF_pt v l _ _ (fun x => !p x) w1 (h.below B1.out) (enters_of Try.func84 (by kernel_rfl) rfl) (fun i hi W hW => all1_pt _ g ba lb _ _ W eg (tb_kept K1.out hW) (fun V hV => hp i hi V (B1.out.trans ((hW.trans (hV.mono hW.size)).mono B1.out.size))))
  have HE := Lib.hid (all_not_any l p)
  clear hw1 h hp eg K1
  rw [← HE.out]
  generalize (l.any fun x => !p x) = r at *
  subst hv0
  go_enter Try.func69, Try.ntmps69
  go_upto_region 1 with fail
  rw [← HW1.out]
  go_wp2_with fail
  refine HI.out.mono ?_
  rintro e w2 ⟨rfl, hb⟩
  have B2 := Lib.hid (B1.out.trans (hb.mono B1.out.size))
  clear hb
  go_wp2_with fail
  go_ret
  exact ⟨rfl, B2.out⟩
end Go.Proofs.Ytnjeiigdfdjccaa
