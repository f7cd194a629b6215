/- frame.Begins: the iterator. -/
import Derived.Test.YthbieplfphignaaFraSeq
import Derived.Sort.LoopGhostIn
namespace Go.Proofs.Ythbieplfphignaa
open Go.RowKit Go.Shelf
set_option linter.unusedVariables false
attribute [local go_sem] Oper.semAt_some
/-- The body leaves these blocks as they lay. -/
def KeepQ (B : Nat) (Q : Nat → Prop) (X Y : World) : Prop := X.heap.size ≤ Y.heap.size ∧ ∀ b, b < B → Q b → Y.heap[b]? = X.heap[b]?
theorem KeepQ.trans {B : Nat} {Q : Nat → Prop} {X Y Z : World} (h : KeepQ B Q X Y) (k : KeepQ B Q Y Z) : KeepQ B Q X Z := ⟨Nat.le_trans h.1 k.1, fun b hb hq => (k.2 b hb hq).trans (h.2 b hb hq)⟩
theorem KeepQ.put {B : Nat} {Q : Nat → Prop} {W : World} {l : Nat} (o' : Obj) (h : B ≤ l) : KeepQ B Q W (W.putObj l o') := ⟨by simp [World.putObj], fun b hb _ => World.putObj_heap_other (by omega)⟩
theorem cell_heap {X Y : World} {b : Nat} (h : Y.heap[b]? = X.heap[b]?) (o : Nat) : Y.cell? ⟨b, o, none⟩ = X.cell? ⟨b, o, none⟩ := by simp [World.cell?, h]
/-- The slots lie in one block. -/
def InQ (Q : Nat → Prop) (a : Option Addr) (len B : Nat) : Prop := 0 < len → ∀ b off, a = some ⟨b, off, none⟩ → Q b ∧ b < B
theorem SlotsAt.keepQ {X Y : World} {B : Nat} {Q : Nat → Prop} {a : Option Addr} {len : Nat} {S : Nat → SlotR} (h : SlotsAt X a len S) (hq : InQ Q a len B) (hk : KeepQ B Q X Y) : SlotsAt Y a len S := by
  refine ⟨?_, h.2⟩
  by_cases hp : 0 < len
  case neg => exact .inl (by omega)
  rcases h.1 with h | ⟨b, off, rfl, hlt, hc⟩
  · exact .inl h
  · obtain ⟨q1, q2⟩ := hq hp b off rfl
    exact .inr ⟨b, off, rfl, Nat.lt_of_lt_of_le hlt hk.1, fun i hi j hj => by rw [cell_heap (hk.2 b q2 q1)]; exact hc i hi j hj⟩
theorem SlotsAt.setOther {W : World} {a : Option Addr} {len kb o : Nat} {S : Nat → SlotR} (h : SlotsAt W a len S) (hne : 0 < len → ∀ b off, a = some ⟨b, off, none⟩ → b ≠ kb) (v : Value) : SlotsAt (W.setCell ⟨kb, o, none⟩ v) a len S := by
  refine ⟨?_, h.2⟩
  by_cases hp : 0 < len
  case neg => exact .inl (by omega)
  rcases h.1 with h | ⟨b, off, rfl, hlt, hc⟩
  · exact .inl h
  · exact .inr ⟨b, off, rfl, by simpa [World.setCell] using hlt, fun i hi j hj => by rw [cell_heap (heap_setCell_other _ _ _ _ (hne hp b off rfl))]; exact hc i hi j hj⟩
/-- The i-th beginning, from frame k on. -/
def encB (L : Nat) (S : Nat → SlotR) (len k : Nat) (i : Nat) : Array Value := #[.int .i64 ((i % len : Nat) : Int), .int .u64 (beginI L S len ((k + i / len) % 18446744073709551616) ((i % len : Nat) : Int))]
theorem encB_at (L : Nat) (S : Nat → SlotR) (len k r j : Nat) (h : j < len) : encB L S len k (r * len + j) = #[.int .i64 (j : Int), .int .u64 (beginI L S len ((k + r) % 18446744073709551616) (j : Int))] := by
  have e1 : (r * len + j) % len = j := by rw [Nat.add_comm, Nat.add_mul_mod_self_right, Nat.mod_eq_of_lt h]
  have e2 : (r * len + j) / len = r := by rw [Nat.add_comm, Nat.add_mul_div_right _ _ (by omega), Nat.div_eq_of_lt h]; omega
  unfold encB; rw [e1, e2]
set_option maxRecDepth 100000 in
set_option maxHeartbeats 4000000 in
theorem begins1_in (n : Nat) (L sw : Nat) (a : Option Addr) (len cap : Nat) (S : Nat → SlotR) (k N db kb : Nat) (w : World) (Q : Nat → Prop) (hm : len ≤ 9223372036854775807) (hL : L < 4294967296)
    (hS : SlotsAt w a len S) (hD : Held w db #[.int .u32 (L : Int), .int .u32 (sw : Int), .slice a len cap] 25) (hK : Boxed w kb 26 (.int .u64 ((k % 18446744073709551616 : Nat) : Int))) (hne : db ≠ kb) (hqa : InQ Q a len w.heap.size) (hqd : Q db) (hqk : Q kb) (hak : 0 < len → ∀ b off, a = some ⟨b, off, none⟩ → b ≠ kb) :
    SeqB Fence.wide n Try.prog 23 #[.pointer (some ⟨db, 0, none⟩), .pointer (some ⟨kb, 0, none⟩)] (encB L S len k) (KeepQ w.heap.size Q) kb (fun x => len = 0 ∧ x = 0) (0 < len) N w := by
  intro l J Jx W hW hJ hJx hJN hY h0
  have hdlt := hD.lt
  have hklt := hK.lt
  have HS : Hid (SlotsAt W a len S) := hS.below hW
  have HD : Hid (Held W db #[.int .u32 (L : Int), .int .u32 (sw : Int), .slice a len cap] 25) := (hW.block _ hdlt).trans hD
  have HK : Hid (Boxed W kb 26 (.int .u64 ((k % 18446744073709551616 : Nat) : Int))) := (hW.block _ hklt).trans hK
  have HJN := Lib.hid hJN
  have HB := Lib.hid hW.size
  clear hS hD hK hJN hW
  refine callsIn_of_wp Try.func23 rfl trivial ?_ rfl
  simp only [Try.ntmps23, List.size_toArray, List.length_cons, List.length_nil, Nat.reduceAdd, Nat.reduceSub, Array.replicate_succ, Array.replicate_zero, List.push_toArray, List.append_toArray, List.nil_append, List.cons_append]
  gi_wp2
  gi_loopg [] (if len = 0 then 1 else N) (fun g wr => ∃ r : Nat, (len = 0 → r = 0) ∧ (len ≠ 0 → g = N - r * len) ∧ J (r * len) wr ∧ w.heap.size ≤ wr.heap.size ∧ Held wr db #[.int .u32 (L : Int), .int .u32 (sw : Int), .slice a len cap] 25 ∧ Boxed wr kb 26 (.int .u64 (((k + r) % 18446744073709551616 : Nat) : Int)) ∧ SlotsAt wr a len S)
  case atStart => exact ⟨0, fun _ => rfl, fun h => by rw [if_neg h]; omega, by rw [Nat.zero_mul]; exact h0, HB.out, HD.out, HK.out, HS.out⟩
  case round =>
    obtain ⟨r, hr0, hg, j1, j2, j3, j4, j5⟩ := hrel
    obtain ⟨w1, rfl⟩ : ∃ w1 : World, w1 = wr := ⟨_, rfl⟩
    have R0 := Lib.hid hr0; have RG := Lib.hid hg
    have J1 := Lib.hid j1; have H1 := Lib.hid j3; have K1 := Lib.hid j4; have S1 := Lib.hid j5
    clear hr0 hg j1 j3 j4 j5 HS HD HK HB h0
    have d0 : w1.cell? ⟨db, 0, none⟩ = some (.int .u32 (L : Int)) := H1.out.cell 0 _ rfl
    have d1 : w1.cell? ⟨db, 1, none⟩ = some (.int .u32 (sw : Int)) := H1.out.cell 1 _ rfl
    have d2 : w1.cell? ⟨db, 2, none⟩ = some (.slice a len cap) := H1.out.cell 2 _ rfl
    by_cases hz : len = 0
    · have hr := R0.out hz
      subst hr
      subst hz
      have JJ : Hid (J 0 w1) := by have := J1.out; rwa [Nat.zero_mul] at this
      clear J1
      gi_wp2
      go_end0
      exact ⟨⟨_, rfl⟩, .inl JJ.out⟩
    · have hp : decide (0 < len) = true := by simp; omega
      have hp0 : 0 < len := by omega
      have hNr := HJN.out _ _ J1.out
      have RG2 := Lib.hid (RG.out hz)
      clear RG R0
      gi_wp2
      clear d0 d1 d2
      gi_loopw [14] (fun i wr => ∃ j : Nat, j ≤ len ∧ i = .int .i64 j ∧ J (r * len + j) wr ∧ w.heap.size ≤ wr.heap.size ∧ Held wr db #[.int .u32 (L : Int), .int .u32 (sw : Int), .slice a len cap] 25 ∧ Boxed wr kb 26 (.int .u64 (((k + r) % 18446744073709551616 : Nat) : Int)) ∧ SlotsAt wr a len S) (fun i _ => len - (intOf i).toNat)
      case atStart => exact ⟨0, Nat.zero_le _, rfl, J1.out, j2, H1.out, K1.out, S1.out⟩
      case round =>
        obtain ⟨j, hj, rfl, j1, j2, j3, j4, j5⟩ := hrel
        obtain ⟨w2, rfl⟩ : ∃ w2 : World, w2 = wr := ⟨_, rfl⟩
        have J2 := Lib.hid j1; have H2 := Lib.hid j3; have K2 := Lib.hid j4; have S2 := Lib.hid j5
        clear j1 j3 j4 j5
        by_cases hlt : j < len
        · have d0 : w2.cell? ⟨db, 0, none⟩ = some (.int .u32 (L : Int)) := H2.out.cell 0 _ rfl
          have d1 : w2.cell? ⟨db, 1, none⟩ = some (.int .u32 (sw : Int)) := H2.out.cell 1 _ rfl
          have d2 : w2.cell? ⟨db, 2, none⟩ = some (.slice a len cap) := H2.out.cell 2 _ rfl
          have d3 : w2.cell? ⟨kb, 0, none⟩ = some (.int .u64 (((k + r) % 18446744073709551616 : Nat) : Int)) := K2.out.cell
          have hkk : (k + r) % 18446744073709551616 < 18446744073709551616 := Nat.mod_lt _ (by omega)
          have HE := Lib.hid (encB_at L S len k r j hlt)
          generalize (k + r) % 18446744073709551616 = kk at *
          have hlt2 := H2.out.lt
          clear d1
          have d1 : w2.cell? ⟨db, 1, none⟩ = some (.int .u32 (sw : Int)) := H2.out.cell 1 _ rfl
          gi_wp2_with (fail)
          clear d0 d1 d2 d3
          refine ⟨trivial, fun h => (by cases h), (callsIn_wide.2 (begin_any L sw a len cap S kk (j : Int) _ hm hL hkk S2.out)).mono ?_⟩
          rintro e w3 ⟨rfl, hb⟩
          have hg3 := grown_of_below hb (some kb)
          have J3 := Lib.hid (hJ _ _ _ J2.out hg3)
          have H3 : Hid (Held w3 db #[.int .u32 (L : Int), .int .u32 (sw : Int), .slice a len cap] 25) := (hb.block _ H2.out.lt).trans H2.out
          have K3 : Hid (Boxed w3 kb 26 (.int .u64 (kk : Int))) := (hb.block _ K2.out.lt).trans K2.out
          have S3 : Hid (SlotsAt w3 a len S) := S2.out.below hb
          have hz3 := Nat.le_trans j2 hb.size
          clear hb hg3
          obtain ⟨fn, tmps, assign, body, hy, hR⟩ := hY (r * len + j) w3 hp0 J3.out
          rw [HE.out] at hy
          gi_wp2_with (fail)
          refine ⟨fun h => (by cases h), hR.mono ?_⟩
          rintro e w4 (⟨rfl, q1, q2⟩ | ⟨rfl, q1⟩)
          · have J4 : Hid (J (r * len + (j + 1)) w4) := q1
            have H4 : Hid (Held w4 db #[.int .u32 (L : Int), .int .u32 (sw : Int), .slice a len cap] 25) := (q2.2 db hdlt hqd).trans H3.out
            have K4 : Hid (Boxed w4 kb 26 (.int .u64 (kk : Int))) := (q2.2 kb hklt hqk).trans K3.out
            have S4 : Hid (SlotsAt w4 a len S) := S3.out.keepQ hqa q2
            have hz4 := Nat.le_trans hz3 q2.1
            clear q1 q2 hy hR
            gi_wp2_with (fail)
            go_roundw
            case rel => exact ⟨j + 1, by omega, by go_num, J4.out, hz4, H4.out, K4.out, S4.out⟩
            case measure => simp [intOf]; omega
          · have JX := Lib.hid q1
            have hN := HJN.out _ _ J3.out
            clear q1 hy hR
            gi_wp2_with (fail)
            refine bodyPost_ret (results_none rfl _ _ _) rfl ?_
            exact ⟨⟨_, rfl⟩, .inr ⟨_, by omega, JX.out⟩⟩
        · obtain rfl : len = j := by omega
          have d3 : w2.cell? ⟨kb, 0, none⟩ = some (.int .u64 (((k + r) % 18446744073709551616 : Nat) : Int)) := K2.out.cell
          have f3 : w2.frozen? ⟨kb, 0, none⟩ = false := K2.out.frozen
          have hw : Hid (((((k + r) % 18446744073709551616 : Nat) : Int) + 1) % 18446744073709551616 = (((k + (r + 1)) % 18446744073709551616 : Nat) : Int)) := by show _ = _; omega
          have hk2 : (k + r) % 18446744073709551616 < 18446744073709551616 := Nat.mod_lt _ (by omega)
          generalize (k + r) % 18446744073709551616 = kk at *
          gi_wp2
          gi_roundg (gk - len)
          case rel =>
            refine ⟨r + 1, fun h => absurd h hz, fun _ => by rw [RG2.out, Nat.succ_mul]; omega, by rw [Nat.succ_mul]; exact hJ _ _ _ J2.out (grown_setCell (grown_refl _ _) _), by simpa [World.setCell] using j2, H2.out.other hne _ _, ?_, S2.out.setOther hak _⟩
            have := K2.out.set (.int .u64 (((k + (r + 1)) % 18446744073709551616 : Nat) : Int))
            rw [← hw.out] at this ⊢
            simpa [wrapU64] using this
          all_goals (rw [RG2.out]; omega)
end Go.Proofs.Ythbieplfphignaa
