/- Check. -/
import Derived.Test.YteekneicahfkpaaRigPi
import Derived.Test.YteekneicahfkpaaSeqD
import Derived.Test.YteekneicahfkpaaApp2
import Derived.Laws.StructEq
import Derived.Test.YteekneicahfkpaaRigT
namespace Go.Proofs.Yteekneicahfkpaa
open Go.RowKit Go.Shelf
set_option linter.unusedVariables false
set_option linter.unusedSimpArgs false
attribute [local go_sem] Oper.semAt_some
theorem pairs_mk (a : Option Addr) (len cap : Nat) (w : World) :
    Calls Try.prog 29 #[.slice a len cap] w fun e w' => e = .returned (.func (.func 33) #[] #[.pointer (some ⟨w.heap.size, 0, none⟩)]) ∧ w' = w.alloc (.cells #[.slice a len cap] 29) := by
  go_enter Try.func29, Try.ntmps29
  go_wp2_with fail
  go_ret
  exact ⟨rfl, rfl⟩
/-- The frame when a round's two variables are made. -/
def ckAct (a : Option Addr) (len cap m b0 lb g : Nat) (x y : Value) : Act :=
  { tmps := #[.slice a len cap, .int .u32 (m : Int), undef, .pointer (some ⟨b0, 0, none⟩), .pointer (some ⟨b0 + 1, 0, none⟩), .pointer (some ⟨g, 0, none⟩), .pointer (some ⟨g + 1, 0, none⟩), .bool false, .slice a len cap, .int .i64 (len : Int), .bool false, .bool false,
      .int .u32 (m : Int), .bool false, .bool false, .slice a len cap, .func (.func 28) #[] #[.pointer (some ⟨b0, 0, none⟩)], .bool false, .bool false, .slice a len cap, .func (.func 33) #[] #[.pointer (some ⟨lb, 0, none⟩)], x, y,
      undef, undef, undef, undef, undef, undef, undef, undef], defers := [] }
def regO (r : Reg) : Obj := .cells #[.int .u32 (r.base : Int), .int .u32 (r.size : Int), .int .u8 (r.rt : Int)] 24
/-- Ahead of each round. -/
def ChkI (B br : Nat) (w : World) (L : Nat → Reg) (len : Nat) (x : Nat) (Fb : Nat → Prop) (W : World) : Prop :=
  Below w.heap.size w W ∧ B ≤ W.heap.size ∧ ¬ Fb br ∧ W.heap[br]? = some (.cells #[.int .i64 0] 40 (0, 0)) ∧ ∀ y, y < x → (L ((prs len).getD y (0, 0)).1).over (L ((prs len).getD y (0, 0)).2) = false
theorem ChkI.grown {B br : Nat} {w : World} {L : Nat → Reg} {len x : Nat} {Fb : Nat → Prop} {W W' : World} {row : Option Nat} (h : ChkI B br w L len x Fb W) (hg : W.grownBy W' row) (hr : ∀ r, row = some r → B ≤ r ∧ ∃ o : Obj, W.heap[r]? = some o ∧ o.isCells = false) (hB : w.heap.size ≤ B) : ChkI B br w L len x Fb W' := by
  obtain ⟨h1, h2, h3, k1, k2⟩ := h
  exact ⟨h1.grown hg h1.size (fun j e => Nat.le_trans hB (hr j e).1), Nat.le_trans h2 hg.size, h3, (hg.block br (heap_lt k1) (fun e => by
    obtain ⟨_, o, ho, hc⟩ := hr br e.symm
    rw [k1] at ho; cases ho; simp [Obj.isCells] at hc)).trans k1, k2⟩
theorem ChkI.below {B br : Nat} {w : World} {L : Nat → Reg} {len x : Nat} {Fb : Nat → Prop} {A W : World} (h : ChkI B br w L len x Fb A) (hb : Below A.heap.size A W) : ChkI B br w L len x (extF Fb A W) W := by
  obtain ⟨h1, h2, h3, k1, k2⟩ := h
  have l2 := heap_lt k1
  exact ⟨h1.trans (hb.mono h1.size), Nat.le_trans h2 hb.size, fun e => e.elim h3 (fun e => by omega), kept k1 hb, k2⟩
theorem ChkI.below' {B br : Nat} {w : World} {L : Nat → Reg} {len x : Nat} {Fb : Nat → Prop} {A W : World} (h : ChkI B br w L len x Fb A) (hb : Below A.heap.size A W) : ChkI B br w L len x Fb W := by
  obtain ⟨h1, h2, h3, k1, k2⟩ := h
  exact ⟨h1.trans (hb.mono h1.size), Nat.le_trans h2 hb.size, h3, kept k1 hb, k2⟩
def ChkX (B br : Nat) (w : World) (W : World) : Prop := Below w.heap.size w W ∧ B ≤ W.heap.size ∧ W.heap[br]? = some (.cells #[.int .i64 50] 40 (0, 0))
theorem ChkX.grown {B br : Nat} {w : World} {W W' : World} {row : Option Nat} (h : ChkX B br w W) (hg : W.grownBy W' row) (hr : ∀ r, row = some r → B ≤ r ∧ ∃ o : Obj, W.heap[r]? = some o ∧ o.isCells = false) (hB : w.heap.size ≤ B) : ChkX B br w W' := by
  obtain ⟨h1, h2, k1⟩ := h
  exact ⟨h1.grown hg h1.size (fun j e => Nat.le_trans hB (hr j e).1), Nat.le_trans h2 hg.size, (hg.block br (heap_lt k1) (fun e => by
    obtain ⟨_, o, ho, hc⟩ := hr br e.symm
    rw [k1] at ho; cases ho; simp [Obj.isCells] at hc)).trans k1⟩
theorem ChkX.below {B br : Nat} {w : World} {A W : World} (h : ChkX B br w A) (hb : Below A.heap.size A W) : ChkX B br w W := by
  obtain ⟨h1, h2, k1⟩ := h
  exact ⟨h1.trans (hb.mono h1.size), Nat.le_trans h2 hb.size, kept k1 hb⟩
theorem prs_all {L : Nat → Reg} {n : Nat} (h : ∀ y, y < tri n → (L ((prs n).getD y (0, 0)).1).over (L ((prs n).getD y (0, 0)).2) = false) : ∀ i k, k < i → i < n → (L i).over (L k) = false := by
  intro i k hk hi
  have := h _ (prs_lt hk hi)
  rw [List.getD_eq_getElem?_getD, prs_get hk hi] at this
  exact this
def chkOk (L : Nat → Reg) (n m : Nat) : Prop := n ≤ 8 ∧ m ≤ 262144 ∧ (∀ i, i < n → (L i).fits m = true) ∧ ∀ i k, k < i → i < n → (L i).over (L k) = false
set_option maxRecDepth 100000 in
set_option maxHeartbeats 8000000 in
theorem check_in (n : Nat) (h4 : 4 ≤ n) (a : Option Addr) (len cap : Nat) (L : Nat → Reg) (m : Nat) (w : World) (hn : len ≤ 9223372036854775807) (hc : len ≤ cap) (hm : m < 4294967296) (hL : RegsAt w a len L) :
    CallsIn Fence.wide n Try.prog 18 #[.slice a len cap, .int .u32 (m : Int)] w fun e w' => (∃ c : Int, e = .returned (.int .i64 c) ∧ (c = 0 → chkOk L len m)) ∧ Below w.heap.size w w' := by
  have HL := Lib.hid hL
  clear hL
  obtain ⟨w1, hw1⟩ : ∃ w1, w1 = (w.alloc (.cells #[.int .u32 (m : Int)] 22)).alloc (.cells #[.int .i64 0] 40) := ⟨_, rfl⟩
  have A1 : Hid (Below w.heap.size w w1) := by rw [hw1]; exact ((alloc_below _ _).alloc (alloc_below w (.cells #[.int .u32 (m : Int)] 22)).size _)
  have M1 : Hid (w1.heap[w.heap.size]? = some (.cells #[.int .u32 (m : Int)] 22 (0, 0))) := by rw [hw1]; exact kept (heap_alloc_new _ _) (alloc_below _ _)
  have R1 : Hid (w1.heap[w.heap.size + 1]? = some (.cells #[.int .i64 0] 40 (0, 0))) := by
    rw [hw1, ← show (w.alloc (.cells #[.int .u32 (m : Int)] 22)).heap.size = w.heap.size + 1 from Array.size_push _]
    exact heap_alloc_new _ _
  have L1 : Hid (RegsAt w1 a len L) := HL.out.below A1.out
  have HW1 := Lib.hid hw1
  clear hw1
  refine callsIn_of_wp_marks Try.func18 rfl trivial ?_ rfl
  simp only [Try.ntmps18, List.size_toArray, List.length_cons, List.length_nil, Nat.reduceAdd, Nat.reduceSub, Array.replicate_succ, Array.replicate_zero, List.push_toArray, List.append_toArray, List.nil_append, List.cons_append]
  gi_upto_region 1 with (fail)
  rw [← HW1.out]
  have r1 : w1.cell? ⟨w.heap.size + 1, 0, none⟩ = some (.int .i64 0) := cell_row (j := 0) R1.out rfl
  have f1 : w1.frozen? ⟨w.heap.size + 1, 0, none⟩ = false := frozen_of_row _ _ _ _ _ R1.out
  have m1 : w1.cell? ⟨w.heap.size, 0, none⟩ = some (.int .u32 (m : Int)) := cell_row (j := 0) M1.out rfl
  have l0 := heap_lt M1.out; have l1 := heap_lt R1.out
  by_cases t1 : 8 < len
  · have t1' : decide (8 < (len : Int)) = true := by simp; omega
    have q : (w1.setCell ⟨w.heap.size + 1, 0, none⟩ (.int .i64 3)).cell? ⟨w.heap.size + 1, 0, none⟩ = some (.int .i64 3) := cell_row (j := 0) (heap_setCell_same _ _ _ _ _ _ R1.out) rfl
    have HQ := Lib.hid q
    have BF : Hid (Below w.heap.size w (w1.setCell ⟨w.heap.size + 1, 0, none⟩ (.int .i64 3))) := A1.out.setCell (by show w.heap.size ≤ w.heap.size + 1; omega) _
    clear q
    gi_wp2_with (fail)
    exact ⟨.int .i64 3, by have q := HQ.out; simp [results, Try.f18, go_sem, q], ⟨3, rfl, fun h => by cases h⟩, BF.out⟩
  · have t1' : decide (8 < (len : Int)) = false := by simp; omega
    by_cases t2 : 262144 < m
    · have t2' : decide (262144 < (m : Int)) = true := by simp; omega
      have n2 : decide (262144 < m) = true := by simp; omega
      have q : (w1.setCell ⟨w.heap.size + 1, 0, none⟩ (.int .i64 2)).cell? ⟨w.heap.size + 1, 0, none⟩ = some (.int .i64 2) := cell_row (j := 0) (heap_setCell_same _ _ _ _ _ _ R1.out) rfl
      have HQ := Lib.hid q
      have BF : Hid (Below w.heap.size w (w1.setCell ⟨w.heap.size + 1, 0, none⟩ (.int .i64 2))) := A1.out.setCell (by show w.heap.size ≤ w.heap.size + 1; omega) _
      clear q
      gi_wp2_with (fail)
      refine ⟨trivial, ?_⟩
      gi_wp2_with (fail)
      exact ⟨.int .i64 2, by have q := HQ.out; simp [results, Try.f18, go_sem, q], ⟨2, rfl, fun h => by cases h⟩, BF.out⟩
    · have t2' : decide (262144 < (m : Int)) = false := by simp; omega
      have n2 : decide (262144 < m) = false := by simp; omega
      have HB := Lib.hid (contains_any a len cap L m w.heap.size w1 L1.out hn hm M1.out)
      cases hb : badAt L len m with
      | some k =>
        rw [hb] at HB
        clear hb
        gi_wp2_with (fail)
        refine ⟨trivial, fun h => (by cases h), (callsIn_wide.2 HB.out).mono ?_⟩
        rintro e w2 ⟨rfl, hb2⟩
        have A2 : Hid (Below w.heap.size w w2) := A1.out.trans (hb2.mono A1.out.size)
        have R2 := Lib.hid (kept R1.out hb2)
        clear hb2 r1 f1 m1 l0 l1
        have r1 : w2.cell? ⟨w.heap.size + 1, 0, none⟩ = some (.int .i64 0) := cell_row (j := 0) R2.out rfl
        have f1 : w2.frozen? ⟨w.heap.size + 1, 0, none⟩ = false := frozen_of_row _ _ _ _ _ R2.out
        have l1 := heap_lt R2.out
        have q : (w2.setCell ⟨w.heap.size + 1, 0, none⟩ (.int .i64 2)).cell? ⟨w.heap.size + 1, 0, none⟩ = some (.int .i64 2) := cell_row (j := 0) (heap_setCell_same _ _ _ _ _ _ R2.out) rfl
        have HQ := Lib.hid q
        have BF : Hid (Below w.heap.size w (w2.setCell ⟨w.heap.size + 1, 0, none⟩ (.int .i64 2))) := A2.out.setCell (by show w.heap.size ≤ w.heap.size + 1; omega) _
        clear q
        gi_wp2_with (fail)
        exact ⟨.int .i64 2, by have q := HQ.out; simp [results, Try.f18, go_sem, q], ⟨2, rfl, fun h => by cases h⟩, BF.out⟩
      | none =>
        have HFT := Lib.hid (badAt_none hb)
        rw [hb] at HB
        clear hb
        gi_wp2_with (fail)
        refine ⟨trivial, fun h => (by cases h), (callsIn_wide.2 HB.out).mono ?_⟩
        rintro e w2 ⟨rfl, hb2⟩
        have A2 : Hid (Below w.heap.size w w2) := A1.out.trans (hb2.mono A1.out.size)
        have R2 := Lib.hid (kept R1.out hb2)
        have L2 : Hid (RegsAt w2 a len L) := L1.out.below hb2
        clear hb2 r1 f1 m1 l0 l1 HB A1 R1 L1 M1 HW1
        gi_wp2_with (fail)
        refine ⟨trivial, fun _ => (by omega), (callsIn_wide.2 (pairs_mk a len cap w2)).mono ?_⟩
        rintro e w' ⟨rfl, rfl⟩
        obtain ⟨w3, hw3⟩ : ∃ w3, w3 = w2.alloc (.cells #[.slice a len cap] 29) := ⟨_, rfl⟩
        rw [← hw3]
        have B3 : Hid (Below w2.heap.size w2 w3) := by rw [hw3]; exact alloc_below _ _
        have S3 : Hid (w3.heap[w2.heap.size]? = some (.cells #[.slice a len cap] 29 (0, 0))) := by rw [hw3]; exact heap_alloc_new _ _
        have R3 := Lib.hid (kept R2.out B3.out)
        have L3 : Hid (RegsAt w3 a len L) := L2.out.below B3.out
        have A3 : Hid (Below w.heap.size w w3) := A2.out.trans (B3.out.mono A2.out.size)
        have HBR : Hid (w.heap.size + 1 < w2.heap.size) := heap_lt R2.out
        clear hw3 A2 B3 R2 L2
        generalize hlb : w2.heap.size = lb at *
        gi_wp2_with (fail)
        have HQ := pairs1_in (n - 1) a len cap L lb w3 (by omega) hc L3.out S3.out
        obtain ⟨B, hB⟩ : ∃ B, B = w3.heap.size := ⟨_, rfl⟩
        have HBw := Lib.hid hB
        have HMW := Lib.hid A3.out.size
        have HLk : Hid (∀ i, (L i).ok) := HL.out.2
        have HNF : ∀ off, a = some ⟨w.heap.size + 1, off, none⟩ → 0 < len → False := fun off e h => by
          obtain ⟨b', off', e', hb', _⟩ := HL.out.1.at h
          rw [e] at e'; cases e'; omega
        refine rangeFunc_d (ps := #[21, 22]) rfl (by omega) (gf := 33) (lb := #[.pointer (some ⟨lb, 0, none⟩)]) rfl trivial (enters_of Try.func33 (by kernel_rfl) rfl)
          (Kb := fun b => b = lb ∨ ∃ off, 0 < len ∧ a = some ⟨b, off, none⟩) (N := tri len) (fun b hb => by
            rcases hb with rfl | ⟨off, h1, h2⟩
            · exact heap_lt S3.out
            · obtain ⟨b', off', e', hb', _⟩ := L3.out.1.at h1
              rw [h2] at e'; cases e'; exact hb') HQ (fun _ => rfl)
          (fun x Fb W => ChkI B (w.heap.size + 1) w L len x Fb W) (fun c x Fb W => c = .ret ∧ ChkX B (w.heap.size + 1) w W)
          (fun Fb s W W' row h hg hr => h.grown hg (fun r e => ⟨by rw [hB]; exact (hr r e).1, (hr r e).2⟩) (by rw [hB]; exact A3.out.size))
          (fun _ Fb s W W' row h hg hr => ⟨h.1, h.2.grown hg (fun r e => ⟨by rw [hB]; exact (hr r e).1, (hr r e).2⟩) (by rw [hB]; exact A3.out.size)⟩)
          (fun s Fb A W h hb => h.below hb) (fun _ s Fb A W h hb => ⟨h.1, h.2.below hb⟩) (fun s Fb A W h hb => h.below' hb)
          (fun A hA => ⟨A3.out.trans (hA.mono A3.out.size), by rw [hB]; exact hA.size, fun e => e.elim (fun e => by have := HBR.out; omega) (fun ⟨off, h1, h2⟩ => HNF off h2 h1), kept R3.out hA, fun y hy => absurd hy (by omega)⟩)
          (fun x a' W => ∃ g, a' = ckAct a len cap m w.heap.size lb g (L ((prs len).getD x (0, 0)).1).val (L ((prs len).getD x (0, 0)).2).val ∧ W.heap[g]? = some (regO (L ((prs len).getD x (0, 0)).1)) ∧ W.heap[g + 1]? = some (regO (L ((prs len).getD x (0, 0)).2)))
          ?hAo ?assign ?body ?done ?stop
        case hAo =>
          intro x a' s W W' row h hg hr
          obtain ⟨g, e1, e2, e3⟩ := h
          have key : ∀ {k : Nat} {cs : Array Value} {t : TypeId} {fr : Nat × Nat}, W.heap[k]? = some (Obj.cells cs t fr) → W'.heap[k]? = some (Obj.cells cs t fr) := fun {k cs t fr} hk => (hg.block k (heap_lt hk) (fun e => by
            obtain ⟨_, o, ho, hc⟩ := hr k e.symm
            rw [hk] at ho; cases ho; simp [Obj.isCells] at hc)).trans hk
          exact ⟨g, e1, key e2, key e3⟩
        case assign =>
          intro l x W K hx hK
          unfold encP
          clear HQ L3 S3 R3 hB hlb
          generalize L ((prs len).getD x (0, 0)).1 = r at *
          generalize L ((prs len).getD x (0, 0)).2 = s at *
          unfold Reg.val at *
          have z0 : (W.alloc (.cells #[.int .u32 (r.base : Int), .int .u32 (r.size : Int), .int .u8 (r.rt : Int)] 24)).heap.size = W.heap.size + 1 := Array.size_push _
          have HA : Hid (∀ o, ((W.alloc (.cells #[.int .u32 (r.base : Int), .int .u32 (r.size : Int), .int .u8 (r.rt : Int)] 24)).alloc o).heap[W.heap.size]? = some (regO r)) := fun o => kept (heap_alloc_new _ _) (alloc_below _ _)
          have HB2 : Hid (((W.alloc (.cells #[.int .u32 (r.base : Int), .int .u32 (r.size : Int), .int .u8 (r.rt : Int)] 24)).alloc (regO s)).heap[W.heap.size + 1]? = some (regO s)) := by
            show _ = _
            rw [← z0]; exact heap_alloc_new _ _
          have HBl : Hid (∀ o, Below W.heap.size W ((W.alloc (.cells #[.int .u32 (r.base : Int), .int .u32 (r.size : Int), .int .u8 (r.rt : Int)] 24)).alloc o)) := fun o => (alloc_below W _).trans ((alloc_below _ _).mono (by rw [z0]; omega))
          have HKK := Lib.hid hK
          clear z0 hK
          gi_wp2
          exact HKK.out _ _ (HBl.out _) ⟨W.heap.size, rfl, HA.out _, HB2.out⟩
        case body =>
          intro l x Fb a' W hx hl hF hI hA
          obtain ⟨g, rfl, e2, e3⟩ := hA
          have HO := Lib.hid (fun V => overlap_any (L ((prs len).getD x (0, 0)).1) (L ((prs len).getD x (0, 0)).2) V (HLk.out _) (HLk.out _))
          obtain ⟨i1, i2, i3, k1, i4⟩ := hI
          clear HQ L3 S3 R3 hB hlb HL
          generalize hrr : L ((prs len).getD x (0, 0)).1 = r at *
          generalize hss : L ((prs len).getD x (0, 0)).2 = s at *
          have HRR := Lib.hid hrr; have HSS := Lib.hid hss
          clear hrr hss
          obtain ⟨rb, rz, rt⟩ := r
          obtain ⟨sb, sz, st⟩ := s
          unfold regO at e2 e3
          unfold ckAct
          unfold Reg.val at *
          simp only at e2 e3 HO ⊢
          have HOV : Hid (∃ ov, (⟨rb, rz, rt⟩ : Reg).over ⟨sb, sz, st⟩ = ov) := ⟨_, rfl⟩
          have c0 := cell_row (j := 0) e2 rfl
          have c1 := cell_row (j := 1) e2 rfl
          have c2 := cell_row (j := 2) e2 rfl
          have c3 := cell_row (j := 0) e3 rfl
          have c4 := cell_row (j := 1) e3 rfl
          have c5 := cell_row (j := 2) e3 rfl
          have l0 := heap_lt e2; have l1 := heap_lt e3
          have E2 := Lib.hid e2; have E3 := Lib.hid e3
          have I1 := Lib.hid i1; have K1 := Lib.hid k1; have I2 := Lib.hid i2; have I3 := Lib.hid i3
          clear e2 e3 i1 i2 i3 k1
          clear HNF
          have I4 := Lib.hid i4
          clear i4
          cases n0 : ((rb : Int) == (sb : Int))
          case false =>
            have HR : Hid (CallsIn (Fence.wide.inRound l) (n - 1 - 1 - 1) Try.prog 11 #[.agg #[.int .u32 (rb : Int), .int .u32 (rz : Int), .int .u8 (rt : Int)], .agg #[.int .u32 (sb : Int), .int .u32 (sz : Int), .int .u8 (st : Int)]] W fun e w' => e = .returned (.bool ((⟨rb, rz, rt⟩ : Reg).over ⟨sb, sz, st⟩)) ∧ Below W.heap.size W w') := CallsIn.inRound _ (callsIn_wide.2 (HO.out W))
            cases hov : (⟨rb, rz, rt⟩ : Reg).over ⟨sb, sz, st⟩
            case false =>
              rw [hov] at HR
              have HX : Hid (∀ y, y < x + 1 → (L ((prs len).getD y (0, 0)).1).over (L ((prs len).getD y (0, 0)).2) = false) := fun y hy => by
                by_cases e : y < x
                · exact I4.out y e
                · obtain rfl : y = x := by omega
                  rw [HRR.out, HSS.out]; exact hov
              clear hov HO
              gi_wp2_with (fail)
              refine ⟨trivial, fun _ => (by omega), HR.out.mono ?_⟩
              rintro e w5 ⟨rfl, hb5⟩
              have B5 := Lib.hid hb5
              clear hb5 HR
              gi_wp2
              exact ⟨⟨B5.out.size, fun k o hk hko hoc => kept hko B5.out⟩, ⟨KeepF.below B5.out, B5.out.size⟩, I1.out.trans (B5.out.mono I1.out.size), Nat.le_trans I2.out B5.out.size, I3.out, kept K1.out B5.out, HX.out⟩
            case true =>
              rw [hov] at HR
              clear hov HO
              gi_wp2_with (fail)
              refine ⟨trivial, fun _ => (by omega), HR.out.mono ?_⟩
              rintro e w5 ⟨rfl, hb5⟩
              have B5 := Lib.hid hb5
              clear hb5 HR c0 c1 c2 c3 c4 c5 l0 l1
              have k1 := kept K1.out B5.out
              have r1 : (w5).cell? ⟨w.heap.size + 1, 0, none⟩ = some (.int .i64 0) := cell_row (j := 0) k1 rfl
              have f1 : (w5).frozen? ⟨w.heap.size + 1, 0, none⟩ = false := frozen_of_row _ _ _ _ _ k1
              have lr := heap_lt k1
              obtain ⟨V, hV⟩ : ∃ V, V = (w5).setCell ⟨w.heap.size + 1, 0, none⟩ (.int .i64 50) := ⟨_, rfl⟩
              have O : Hid (Only (fun i => i = w.heap.size + 1) (w5) V) := by rw [hV]; exact (Only.refl _ _).set 0 _ (.inr rfl)
              have V1 : Hid (V.heap[w.heap.size + 1]? = some (.cells #[.int .i64 50] 40 (0, 0))) := by rw [hV]; exact heap_setCell_same _ _ _ _ _ _ k1
              have BU : Hid (Below w.heap.size w (w5)) := I1.out.trans ((B5.out).mono I1.out.size)
              have BV : Hid (Below w.heap.size w V) := BU.out.trans (O.out.below BU.out.size (fun i hi hm => by omega))
              have SV : Hid (W.heap.size ≤ V.heap.size) := Nat.le_trans (B5.out).size O.out.size
              have KV : Hid (KeepsFrom w3.heap.size W V) := ⟨SV.out, fun k o hk hko hoc => box_only (kept hko B5.out) O.out (fun e => by subst e; rw [K1.out] at hko; cases hko; cases hoc)⟩
              have HV := Lib.hid hV
              clear hV k1
              gi_wp2
              rw [← HV.out]
              exact ⟨KV.out, rfl, BV.out, Nat.le_trans I2.out SV.out, V1.out⟩
          case true =>
            cases n1 : ((rz : Int) == (sz : Int))
            case false =>
              have HR : Hid (CallsIn (Fence.wide.inRound l) (n - 1 - 1 - 1) Try.prog 11 #[.agg #[.int .u32 (rb : Int), .int .u32 (rz : Int), .int .u8 (rt : Int)], .agg #[.int .u32 (sb : Int), .int .u32 (sz : Int), .int .u8 (st : Int)]] W fun e w' => e = .returned (.bool ((⟨rb, rz, rt⟩ : Reg).over ⟨sb, sz, st⟩)) ∧ Below W.heap.size W w') := CallsIn.inRound _ (callsIn_wide.2 (HO.out W))
              cases hov : (⟨rb, rz, rt⟩ : Reg).over ⟨sb, sz, st⟩
              case false =>
                rw [hov] at HR
                have HX : Hid (∀ y, y < x + 1 → (L ((prs len).getD y (0, 0)).1).over (L ((prs len).getD y (0, 0)).2) = false) := fun y hy => by
                  by_cases e : y < x
                  · exact I4.out y e
                  · obtain rfl : y = x := by omega
                    rw [HRR.out, HSS.out]; exact hov
                clear hov HO
                gi_wp2_with (fail)
                refine ⟨trivial, fun _ => (by omega), HR.out.mono ?_⟩
                rintro e w5 ⟨rfl, hb5⟩
                have B5 := Lib.hid hb5
                clear hb5 HR
                gi_wp2
                exact ⟨⟨B5.out.size, fun k o hk hko hoc => kept hko B5.out⟩, ⟨KeepF.below B5.out, B5.out.size⟩, I1.out.trans (B5.out.mono I1.out.size), Nat.le_trans I2.out B5.out.size, I3.out, kept K1.out B5.out, HX.out⟩
              case true =>
                rw [hov] at HR
                clear hov HO
                gi_wp2_with (fail)
                refine ⟨trivial, fun _ => (by omega), HR.out.mono ?_⟩
                rintro e w5 ⟨rfl, hb5⟩
                have B5 := Lib.hid hb5
                clear hb5 HR c0 c1 c2 c3 c4 c5 l0 l1
                have k1 := kept K1.out B5.out
                have r1 : (w5).cell? ⟨w.heap.size + 1, 0, none⟩ = some (.int .i64 0) := cell_row (j := 0) k1 rfl
                have f1 : (w5).frozen? ⟨w.heap.size + 1, 0, none⟩ = false := frozen_of_row _ _ _ _ _ k1
                have lr := heap_lt k1
                obtain ⟨V, hV⟩ : ∃ V, V = (w5).setCell ⟨w.heap.size + 1, 0, none⟩ (.int .i64 50) := ⟨_, rfl⟩
                have O : Hid (Only (fun i => i = w.heap.size + 1) (w5) V) := by rw [hV]; exact (Only.refl _ _).set 0 _ (.inr rfl)
                have V1 : Hid (V.heap[w.heap.size + 1]? = some (.cells #[.int .i64 50] 40 (0, 0))) := by rw [hV]; exact heap_setCell_same _ _ _ _ _ _ k1
                have BU : Hid (Below w.heap.size w (w5)) := I1.out.trans ((B5.out).mono I1.out.size)
                have BV : Hid (Below w.heap.size w V) := BU.out.trans (O.out.below BU.out.size (fun i hi hm => by omega))
                have SV : Hid (W.heap.size ≤ V.heap.size) := Nat.le_trans (B5.out).size O.out.size
                have KV : Hid (KeepsFrom w3.heap.size W V) := ⟨SV.out, fun k o hk hko hoc => box_only (kept hko B5.out) O.out (fun e => by subst e; rw [K1.out] at hko; cases hko; cases hoc)⟩
                have HV := Lib.hid hV
                clear hV k1
                gi_wp2
                rw [← HV.out]
                exact ⟨KV.out, rfl, BV.out, Nat.le_trans I2.out SV.out, V1.out⟩
            case true =>
              cases n2' : ((rt : Int) == (st : Int))
              case false =>
                have HR : Hid (CallsIn (Fence.wide.inRound l) (n - 1 - 1 - 1) Try.prog 11 #[.agg #[.int .u32 (rb : Int), .int .u32 (rz : Int), .int .u8 (rt : Int)], .agg #[.int .u32 (sb : Int), .int .u32 (sz : Int), .int .u8 (st : Int)]] W fun e w' => e = .returned (.bool ((⟨rb, rz, rt⟩ : Reg).over ⟨sb, sz, st⟩)) ∧ Below W.heap.size W w') := CallsIn.inRound _ (callsIn_wide.2 (HO.out W))
                cases hov : (⟨rb, rz, rt⟩ : Reg).over ⟨sb, sz, st⟩
                case false =>
                  rw [hov] at HR
                  have HX : Hid (∀ y, y < x + 1 → (L ((prs len).getD y (0, 0)).1).over (L ((prs len).getD y (0, 0)).2) = false) := fun y hy => by
                    by_cases e : y < x
                    · exact I4.out y e
                    · obtain rfl : y = x := by omega
                      rw [HRR.out, HSS.out]; exact hov
                  clear hov HO
                  gi_wp2_with (fail)
                  refine ⟨trivial, fun _ => (by omega), HR.out.mono ?_⟩
                  rintro e w5 ⟨rfl, hb5⟩
                  have B5 := Lib.hid hb5
                  clear hb5 HR
                  gi_wp2
                  exact ⟨⟨B5.out.size, fun k o hk hko hoc => kept hko B5.out⟩, ⟨KeepF.below B5.out, B5.out.size⟩, I1.out.trans (B5.out.mono I1.out.size), Nat.le_trans I2.out B5.out.size, I3.out, kept K1.out B5.out, HX.out⟩
                case true =>
                  rw [hov] at HR
                  clear hov HO
                  gi_wp2_with (fail)
                  refine ⟨trivial, fun _ => (by omega), HR.out.mono ?_⟩
                  rintro e w5 ⟨rfl, hb5⟩
                  have B5 := Lib.hid hb5
                  clear hb5 HR c0 c1 c2 c3 c4 c5 l0 l1
                  have k1 := kept K1.out B5.out
                  have r1 : (w5).cell? ⟨w.heap.size + 1, 0, none⟩ = some (.int .i64 0) := cell_row (j := 0) k1 rfl
                  have f1 : (w5).frozen? ⟨w.heap.size + 1, 0, none⟩ = false := frozen_of_row _ _ _ _ _ k1
                  have lr := heap_lt k1
                  obtain ⟨V, hV⟩ : ∃ V, V = (w5).setCell ⟨w.heap.size + 1, 0, none⟩ (.int .i64 50) := ⟨_, rfl⟩
                  have O : Hid (Only (fun i => i = w.heap.size + 1) (w5) V) := by rw [hV]; exact (Only.refl _ _).set 0 _ (.inr rfl)
                  have V1 : Hid (V.heap[w.heap.size + 1]? = some (.cells #[.int .i64 50] 40 (0, 0))) := by rw [hV]; exact heap_setCell_same _ _ _ _ _ _ k1
                  have BU : Hid (Below w.heap.size w (w5)) := I1.out.trans ((B5.out).mono I1.out.size)
                  have BV : Hid (Below w.heap.size w V) := BU.out.trans (O.out.below BU.out.size (fun i hi hm => by omega))
                  have SV : Hid (W.heap.size ≤ V.heap.size) := Nat.le_trans (B5.out).size O.out.size
                  have KV : Hid (KeepsFrom w3.heap.size W V) := ⟨SV.out, fun k o hk hko hoc => box_only (kept hko B5.out) O.out (fun e => by subst e; rw [K1.out] at hko; cases hko; cases hoc)⟩
                  have HV := Lib.hid hV
                  clear hV k1
                  gi_wp2
                  rw [← HV.out]
                  exact ⟨KV.out, rfl, BV.out, Nat.le_trans I2.out SV.out, V1.out⟩
              case true =>
                clear HO
                have BW : Hid (Below W.heap.size W W) := Below.refl _ _
                have k1 := kept K1.out BW.out
                have r1 : (W).cell? ⟨w.heap.size + 1, 0, none⟩ = some (.int .i64 0) := cell_row (j := 0) k1 rfl
                have f1 : (W).frozen? ⟨w.heap.size + 1, 0, none⟩ = false := frozen_of_row _ _ _ _ _ k1
                have lr := heap_lt k1
                obtain ⟨V, hV⟩ : ∃ V, V = (W).setCell ⟨w.heap.size + 1, 0, none⟩ (.int .i64 50) := ⟨_, rfl⟩
                have O : Hid (Only (fun i => i = w.heap.size + 1) (W) V) := by rw [hV]; exact (Only.refl _ _).set 0 _ (.inr rfl)
                have V1 : Hid (V.heap[w.heap.size + 1]? = some (.cells #[.int .i64 50] 40 (0, 0))) := by rw [hV]; exact heap_setCell_same _ _ _ _ _ _ k1
                have BU : Hid (Below w.heap.size w (W)) := I1.out.trans ((BW.out).mono I1.out.size)
                have BV : Hid (Below w.heap.size w V) := BU.out.trans (O.out.below BU.out.size (fun i hi hm => by omega))
                have SV : Hid (W.heap.size ≤ V.heap.size) := Nat.le_trans (BW.out).size O.out.size
                have KV : Hid (KeepsFrom w3.heap.size W V) := ⟨SV.out, fun k o hk hko hoc => box_only (kept hko BW.out) O.out (fun e => by subst e; rw [K1.out] at hko; cases hko; cases hoc)⟩
                have HV := Lib.hid hV
                clear hV k1
                gi_wp2_with (fail); refine ⟨trivial, ?_⟩; gi_wp2
                rw [← HV.out]
                exact ⟨KV.out, rfl, BV.out, Nat.le_trans I2.out SV.out, V1.out⟩
        case done =>
          intro D Fb W hD hI hK
          obtain ⟨i1, i2, i3, k1, k2⟩ := hI
          have HOK : Hid (chkOk L len m) := ⟨by omega, by omega, HFT.out, prs_all k2⟩
          have I1 := Lib.hid i1; have K1 := Lib.hid k1; have KD := Lib.hid hK; have HD := Lib.hid hD
          have r1 : W.cell? ⟨w.heap.size + 1, 0, none⟩ = some (.int .i64 0) := cell_row (j := 0) k1 rfl
          have f1 : W.frozen? ⟨w.heap.size + 1, 0, none⟩ = false := frozen_of_row _ _ _ _ _ k1
          have lr := heap_lt k1
          obtain ⟨V, hV⟩ : ∃ V, V = W.setCell ⟨w.heap.size + 1, 0, none⟩ (.int .i64 0) := ⟨_, rfl⟩
          have O : Hid (Only (fun i => i = w.heap.size + 1) W V) := by rw [hV]; exact (Only.refl _ _).set 0 _ (.inr rfl)
          have V1 : Hid (V.heap[w.heap.size + 1]? = some (.cells #[.int .i64 0] 40 (0, 0))) := by rw [hV]; exact heap_setCell_same _ _ _ _ _ _ k1
          have BV : Hid (Below w.heap.size w V) := I1.out.trans (O.out.below I1.out.size (fun i hi hm => by omega))
          have HNE : Hid (w.heap.size + 1 ≠ D) := by
            intro e
            have := KD.out
            rw [← e, K1.out] at this
            cases this
          have VD : Hid (V.heap[D]? = some (.deferred (some []))) := box_only KD.out O.out (fun e => HNE.out e.symm)
          have HV := Lib.hid hV
          clear hV i1 i2 i3 k1 k2 hK hD HQ L3 S3 R3 hB hlb HNF
          gi_wp2_with (fail)
          rw [← HV.out]
          refine ⟨by simp, .inl ⟨_, _, rfl, run_takeDeferred VD.out, ?_⟩⟩
          have q2 : (V.putObj D (.deferred none)).cell? ⟨w.heap.size + 1, 0, none⟩ = some (.int .i64 0) := by
            rw [World.cell?_of_block (World.putObj_heap_other (by show w.heap.size + 1 ≠ D; exact HNE.out))]; exact cell_row (j := 0) V1.out rfl
          refine ⟨.int .i64 0, by simp [results, Try.f18, go_sem, q2], ⟨0, rfl, fun _ => HOK.out⟩, ?_⟩
          refine BV.out.grown (grownBy_putObj' V D (.deferred none)) BV.out.size (fun j e => ?_)
          cases e
          exact Nat.le_trans HMW.out HD.out
        case stop =>
          intro D c x Fb W hD h0 hxN hI hK
          obtain ⟨rfl, i1, i2, k1⟩ := hI
          have I1 := Lib.hid i1; have K1 := Lib.hid k1; have KD := Lib.hid hK; have HD := Lib.hid hD
          have HNE : Hid (w.heap.size + 1 ≠ D) := by
            intro e
            have := KD.out
            rw [← e, K1.out] at this
            cases this
          clear i1 i2 k1 hK hD HQ L3 S3 R3 hB hlb HNF
          gi_wp2_with (fail)
          refine ⟨by simp, .inl ⟨_, _, rfl, run_takeDeferred KD.out, ?_⟩⟩
          have q2 : (W.putObj D (.deferred none)).cell? ⟨w.heap.size + 1, 0, none⟩ = some (.int .i64 50) := by
            rw [World.cell?_of_block (World.putObj_heap_other (by show w.heap.size + 1 ≠ D; exact HNE.out))]; exact cell_row (j := 0) K1.out rfl
          refine ⟨.int .i64 50, by simp [results, Try.f18, go_sem, q2], ⟨50, rfl, fun h => by cases h⟩, ?_⟩
          refine I1.out.grown (grownBy_putObj' W D (.deferred none)) I1.out.size (fun j e => ?_)
          cases e
          exact Nat.le_trans HMW.out HD.out
end Go.Proofs.Yteekneicahfkpaa
