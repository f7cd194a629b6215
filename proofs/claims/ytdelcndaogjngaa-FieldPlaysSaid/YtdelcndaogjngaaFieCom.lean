/- Commit. -/
import Derived.Test.YtdelcndaogjngaaFieCl
namespace Go.Proofs.Ytdelcndaogjngaa
open Go.RowKit
set_option linter.unusedVariables false
def FS.outK (f : FS) (W : Nat → Nat) (k : Nat) : FS := { f with outs := fun j => if j < k then W j else f.outs j }
def FS.commit (f : FS) (W : Nat → Nat) : FS := { f with outs := fun j => if j < f.nS then W j else f.outs j, has := fun _ => false }
theorem FieldAt.setOut {w : World} {f : FS} {W : Nat → Nat} {k : Nat} (h : FieldAt w (f.outK W k)) (hk : k < f.nS) (hW : ∀ i, W i < 4294967296) : FieldAt (w.setCell ⟨f.bo, k, none⟩ (.int .u32 ((W k : Nat) : Int))) (f.outK W (k + 1)) := by
  have aS := h.ok.bS
  have aIS := h.ok.bIS
  obtain ⟨k1, k2, k3, k4, k5, k6, k7, k8, k9, k10⟩ := h.ok.bS (show 0 < f.nS by omega)
  simp only [FS.outK] at k1 k2 k3 k4 k5 k6 k7 k8 k9 k10
  have two : ∀ b, b ≠ f.bo → (w.setCell ⟨f.bo, k, none⟩ (.int .u32 ((W k : Nat) : Int))).heap[b]? = w.heap[b]? := fun b h1 => heap_setCell_other _ _ _ _ h1
  refine ⟨(two f.g (by omega)).trans h.obj, ⟨h.ok.nI, h.ok.nS, h.ok.rd, h.ok.wr, h.ok.safe, h.ok.ins, fun i => ?_, h.ok.put, h.ok.g, h.ok.bi, h.ok.bS, h.ok.bIS⟩, h.safe.same (fun _ => two f.bs (by omega)),
    h.ins.same (fun hp => two f.bi (fun e => by have := (h.ok.bIS hp (show 0 < f.nS by omega)).1; exact this e)), ?_, h.put.same (fun _ => two f.bp (by omega)), h.has.same (fun _ => two f.bh (by omega)), by have := h.hi; show f.hi ≤ _; simpa [World.setCell, FS.outK] using this⟩
  · show (if i < k + 1 then W i else f.outs i) < _
    have := h.ok.outs i
    simp only [FS.outK] at this
    by_cases e : i < k + 1
    · rw [if_pos e]; exact hW i
    · rw [if_neg e]; rw [if_neg (by omega)] at this; exact this
  · obtain ⟨a, c, e1, e2, e3, e4⟩ := h.outs
    refine ⟨a, c, e1, e2, e3, fun hp => ⟨(e4 hp).1, ((e4 hp).2.set (i := k) _).congr fun i hi => ?_⟩⟩
    show (if i = k then Value.int .u32 ((W k : Nat) : Int) else Value.int .u32 ((if i < k then W i else f.outs i : Nat) : Int)) = Value.int .u32 ((if i < k + 1 then W i else f.outs i : Nat) : Int)
    by_cases e : i = k
    · subst e; rw [if_pos rfl, if_pos (by omega)]
    · rw [if_neg e]
      by_cases e' : i < k
      · rw [if_pos e', if_pos (by omega)]
      · rw [if_neg e', if_neg (by omega)]
set_option maxHeartbeats 4000000 in
theorem commit_any (f : FS) (b : Bool) (W : Nat → Nat) (w : World) (h : FieldAt w f) (hWd : W = if b then f.done else f.safe) :
    Calls Try.prog 17 #[.pointer (some ⟨f.g, 0, none⟩), .bool b] w fun e w' => e = .returned (.tuple #[]) ∧ FieldAt w' (f.commit W) ∧ Only f.M w w' := by
  have H := Lib.hid h
  have HWd := Lib.hid hWd
  have hWl : Hid (∀ i, W i < 4294967296) := fun i => by
    rw [hWd]
    cases b
    · exact h.ok.safe i
    · show f.done i < _; unfold FS.done; split; exact h.ok.put i; exact h.ok.safe i
  have hfm : (Try.prog).follows .mixedOrders = true := by kernel_rfl
  have mf1 : ∀ w', (Instr.makeFunc (.func 26) #[.pointer (some ⟨f.g, 0, none⟩)] #[]).run Try.prog w' = .ok (.func (.func 26) #[.pointer (some ⟨f.g, 0, none⟩)] #[]) w' := fun _ => rfl
  have mf2 : ∀ w', (Instr.makeFunc (.func 27) #[.pointer (some ⟨f.g, 0, none⟩)] #[]).run Try.prog w' = .ok (.func (.func 27) #[.pointer (some ⟨f.g, 0, none⟩)] #[]) w' := fun _ => rfl
  have hnS := h.ok.nS
  obtain ⟨ao, co, hvo, n1, n2, n3⟩ := h.outs
  obtain ⟨ah, ch, hvh, n4, n5, n6⟩ := h.has
  have HVO := Lib.hid hvo; have HVH := Lib.hid hvh; have HN3 := Lib.hid n3
  have hgg := h.ok.bS
  have HG := Lib.hid hgg
  clear n3 n6 h hgg hWd
  have c5 : w.cell? ⟨f.g, 5, none⟩ = some (.slice ao f.nS co) := by rw [← hvo]; exact H.out.cell 5 _ rfl
  clear hvo hvh
  have F0 : Hid (FieldAt w (f.outK W 0)) := H.out
  obtain ⟨m, hm⟩ : ∃ m : Nat, 4 ≤ m := ⟨4, Nat.le_refl _⟩
  cases b
  · skip
    go_enter Try.func17, Try.ntmps17
    go_wp2_with fail
    clear c5
    go_loopw [18] (fun i wr => ∃ k : Nat, k ≤ f.nS ∧ i = .int .i64 k ∧ FieldAt wr (f.outK W k) ∧ Only f.M w wr) (fun i _ => f.nS - (intOf i).toNat)
    case atStart => exact ⟨0, Nat.zero_le _, rfl, F0.out, Only.refl _ _⟩
    case round =>
      obtain ⟨k, hk, rfl, r1, r2⟩ := hrel
      have FK := Lib.hid r1; have OK := Lib.hid r2
      clear r1 r2
      by_cases hlt : k < f.nS
      · obtain ⟨rfl, -⟩ := HN3.out (by omega)
        have i1 : (k : Int) < (f.nS : Int) := by omega
        have i2 : (0 : Int) ≤ (k : Int) := by omega
        have HW : Hid (∀ V, FieldAt V (f.outK W k) → CallsIn Fence.wide (m - 1) Try.prog 26 #[.pointer (some ⟨f.g, 0, none⟩), .int .i64 (k : Int)] V fun e w' => e = .returned (.int .u32 ((W k : Nat) : Int)) ∧ V = w') := fun V hV => by
          have := safe_any (f.outK W k) k V hV hlt
          rw [show W k = _ from congrFun HWd.out k]
          exact callsIn_wide.2 this
        obtain ⟨U, g, hUn, hU1, hU2⟩ := class_of (fun V => FieldAt V (f.outK W k) ∧ Only f.M w V) (W := wr.drew) ⟨FK.out.drew, OK.out.drew⟩
        have q5 : ∀ u, (g u).cell? ⟨f.g, 5, none⟩ = some (.slice (some ⟨f.bo, 0, none⟩) f.nS co) := fun u => by rw [← HVO.out]; exact (hU1 u).1.cell 5 _ rfl
        have HU1 := Lib.hid hU1; have HU2 := Lib.hid hU2
        have HR : Hid (∀ u, CallsIn Fence.wide (m - 1) Try.prog 26 #[.pointer (some ⟨f.g, 0, none⟩), .int .i64 (k : Int)] (g u) fun e w' => e = .returned (.int .u32 ((W k : Nat) : Int)) ∧ ∃ u', w' = g u') := fun u => (HW.out _ (hU1 u).1).mono fun e w' ⟨he, hw⟩ => ⟨he, u, hw.symm⟩
        clear hU1 hU2
        have hf1 : Fence.wide.fn 26 := trivial
        have hd1 : 1 ≤ m := by omega
        go_wp2_with fail
        refine (wpIn_wide (n := m)).1 ?_
        refine wpIn_region_tail_at 9 g hfm rfl (by kernel_rfl) (HU2.out _ ⟨FK.out.drew, OK.out.drew⟩) ?_
        simp only [List.take_succ_cons, List.take_zero, List.getD_cons_succ, List.getD_cons_zero]
        repeat (gi_big_quiet_step ((gi_at_call 26; exact HR.out _)))
        refine wpQuietIn_nil ?_
        intro u
        obtain ⟨z1, z2⟩ := HU1.out u
        have FV := Lib.hid z1; have OV := Lib.hid z2
        clear z1 z2 q5 HU1 HU2 HR HW
        generalize g u = V at *
        clear g hUn
        obtain ⟨a', c', e1, e2, e3, e4⟩ := FV.out.outs
        have hrow := (e4 (show 0 < f.nS by omega)).2
        have e6 : V.cell? ⟨f.bo, k, none⟩ = some (.int .u32 ((f.outK W k).outs k : Nat)) := hrow.cell hlt
        have f6 : V.frozen? ⟨f.bo, k, none⟩ = false := hrow.frozen k
        clear hrow e1 e2 e3 e4
        unfold Oper.wpIn
        go_simp
        clear e6 f6
        go_wp2_with fail
        go_roundw
        case rel => exact ⟨k + 1, by omega, by go_num, FV.out.setOut hlt hWl.out, OV.out.set k _ (.inr ⟨(HG.out (by omega)).1.1, (HG.out (by omega)).1.2.1⟩)⟩
        case measure => simp [intOf]; omega
      · obtain rfl : k = f.nS := by omega
        have hfh : SlAt wr f.vh f.bh 4 f.nS (hV f.has) := FK.out.has
        obtain ⟨w2, m1, m2, m3, m4, m5, m6, m7⟩ := clear_has hfh
        clear hfh
        have HF : Hid (FieldAt w2 (f.commit W) ∧ Only f.M w w2) := by
          have aS := H.out.ok.bS
          have aI := H.out.ok.bi
          have aIS := H.out.ok.bIS
          refine ⟨⟨(m3 f.g (fun hq => by have := aS hq; omega)).trans FK.out.obj, ⟨H.out.ok.nI, H.out.ok.nS, H.out.ok.rd, H.out.ok.wr, H.out.ok.safe, H.out.ok.ins, FK.out.ok.outs, H.out.ok.put, H.out.ok.g, H.out.ok.bi, H.out.ok.bS, H.out.ok.bIS⟩,
            FK.out.safe.same (fun hp => m3 f.bs (fun _ => by have := aS hp; omega)), FK.out.ins.same (fun hp => m3 f.bi (fun hq => by have := aIS hp hq; omega)), FK.out.outs.same (fun hp => m3 f.bo (fun _ => by have := aS hp; omega)),
            FK.out.put.same (fun hp => m3 f.bp (fun _ => by have := aS hp; omega)), m2, by show f.hi ≤ _; rw [m4]; exact FK.out.hi⟩, ?_⟩
          exact OK.out.trans ⟨m5, m6, m7, by omega, fun b hb hM => m3 b (fun hq e => hM (by have := aS hq; subst e; exact ⟨this.2.2.1.1, this.2.2.1.2.1⟩))⟩
        have c7 : wr.cell? ⟨f.g, 7, none⟩ = some (.slice ah f.nS ch) := by rw [← HVH.out]; exact FK.out.cell 7 _ rfl
        have m1' : ∀ ty, (Builtin.clear_ #[54] ty #[.slice ah f.nS ch]).run Try.prog wr = .ok (.tuple #[]) w2 := by rw [← HVH.out]; exact m1
        clear m1 m2 m3 m4 m5 m6 m7
        go_wp2_with fail
        go_end0
        exact ⟨rfl, HF.out.1, HF.out.2⟩
  · skip
    go_enter Try.func17, Try.ntmps17
    go_wp2_with fail
    clear c5
    go_loopw [18] (fun i wr => ∃ k : Nat, k ≤ f.nS ∧ i = .int .i64 k ∧ FieldAt wr (f.outK W k) ∧ Only f.M w wr) (fun i _ => f.nS - (intOf i).toNat)
    case atStart => exact ⟨0, Nat.zero_le _, rfl, F0.out, Only.refl _ _⟩
    case round =>
      obtain ⟨k, hk, rfl, r1, r2⟩ := hrel
      have FK := Lib.hid r1; have OK := Lib.hid r2
      clear r1 r2
      by_cases hlt : k < f.nS
      · obtain ⟨rfl, -⟩ := HN3.out (by omega)
        have i1 : (k : Int) < (f.nS : Int) := by omega
        have i2 : (0 : Int) ≤ (k : Int) := by omega
        have HW : Hid (∀ V, FieldAt V (f.outK W k) → CallsIn Fence.wide (m - 1) Try.prog 27 #[.pointer (some ⟨f.g, 0, none⟩), .int .i64 (k : Int)] V fun e w' => e = .returned (.int .u32 ((W k : Nat) : Int)) ∧ V = w') := fun V hV => by
          have := done_any (f.outK W k) k V hV hlt
          rw [show W k = _ from congrFun HWd.out k]
          exact callsIn_wide.2 this
        obtain ⟨U, g, hUn, hU1, hU2⟩ := class_of (fun V => FieldAt V (f.outK W k) ∧ Only f.M w V) (W := wr.drew) ⟨FK.out.drew, OK.out.drew⟩
        have q5 : ∀ u, (g u).cell? ⟨f.g, 5, none⟩ = some (.slice (some ⟨f.bo, 0, none⟩) f.nS co) := fun u => by rw [← HVO.out]; exact (hU1 u).1.cell 5 _ rfl
        have HU1 := Lib.hid hU1; have HU2 := Lib.hid hU2
        have HR : Hid (∀ u, CallsIn Fence.wide (m - 1) Try.prog 27 #[.pointer (some ⟨f.g, 0, none⟩), .int .i64 (k : Int)] (g u) fun e w' => e = .returned (.int .u32 ((W k : Nat) : Int)) ∧ ∃ u', w' = g u') := fun u => (HW.out _ (hU1 u).1).mono fun e w' ⟨he, hw⟩ => ⟨he, u, hw.symm⟩
        clear hU1 hU2
        have hf1 : Fence.wide.fn 27 := trivial
        have hd1 : 1 ≤ m := by omega
        go_wp2_with fail
        refine (wpIn_wide (n := m)).1 ?_
        refine wpIn_region_tail_at 9 g hfm rfl (by kernel_rfl) (HU2.out _ ⟨FK.out.drew, OK.out.drew⟩) ?_
        simp only [List.take_succ_cons, List.take_zero, List.getD_cons_succ, List.getD_cons_zero]
        repeat (gi_big_quiet_step ((gi_at_call 27; exact HR.out _)))
        refine wpQuietIn_nil ?_
        intro u
        obtain ⟨z1, z2⟩ := HU1.out u
        have FV := Lib.hid z1; have OV := Lib.hid z2
        clear z1 z2 q5 HU1 HU2 HR HW
        generalize g u = V at *
        clear g hUn
        obtain ⟨a', c', e1, e2, e3, e4⟩ := FV.out.outs
        have hrow := (e4 (show 0 < f.nS by omega)).2
        have e6 : V.cell? ⟨f.bo, k, none⟩ = some (.int .u32 ((f.outK W k).outs k : Nat)) := hrow.cell hlt
        have f6 : V.frozen? ⟨f.bo, k, none⟩ = false := hrow.frozen k
        clear hrow e1 e2 e3 e4
        unfold Oper.wpIn
        go_simp
        clear e6 f6
        go_wp2_with fail
        go_roundw
        case rel => exact ⟨k + 1, by omega, by go_num, FV.out.setOut hlt hWl.out, OV.out.set k _ (.inr ⟨(HG.out (by omega)).1.1, (HG.out (by omega)).1.2.1⟩)⟩
        case measure => simp [intOf]; omega
      · obtain rfl : k = f.nS := by omega
        have hfh : SlAt wr f.vh f.bh 4 f.nS (hV f.has) := FK.out.has
        obtain ⟨w2, m1, m2, m3, m4, m5, m6, m7⟩ := clear_has hfh
        clear hfh
        have HF : Hid (FieldAt w2 (f.commit W) ∧ Only f.M w w2) := by
          have aS := H.out.ok.bS
          have aI := H.out.ok.bi
          have aIS := H.out.ok.bIS
          refine ⟨⟨(m3 f.g (fun hq => by have := aS hq; omega)).trans FK.out.obj, ⟨H.out.ok.nI, H.out.ok.nS, H.out.ok.rd, H.out.ok.wr, H.out.ok.safe, H.out.ok.ins, FK.out.ok.outs, H.out.ok.put, H.out.ok.g, H.out.ok.bi, H.out.ok.bS, H.out.ok.bIS⟩,
            FK.out.safe.same (fun hp => m3 f.bs (fun _ => by have := aS hp; omega)), FK.out.ins.same (fun hp => m3 f.bi (fun hq => by have := aIS hp hq; omega)), FK.out.outs.same (fun hp => m3 f.bo (fun _ => by have := aS hp; omega)),
            FK.out.put.same (fun hp => m3 f.bp (fun _ => by have := aS hp; omega)), m2, by show f.hi ≤ _; rw [m4]; exact FK.out.hi⟩, ?_⟩
          exact OK.out.trans ⟨m5, m6, m7, by omega, fun b hb hM => m3 b (fun hq e => hM (by have := aS hq; subst e; exact ⟨this.2.2.1.1, this.2.2.1.2.1⟩))⟩
        have c7 : wr.cell? ⟨f.g, 7, none⟩ = some (.slice ah f.nS ch) := by rw [← HVH.out]; exact FK.out.cell 7 _ rfl
        have m1' : ∀ ty, (Builtin.clear_ #[54] ty #[.slice ah f.nS ch]).run Try.prog wr = .ok (.tuple #[]) w2 := by rw [← HVH.out]; exact m1
        clear m1 m2 m3 m4 m5 m6 m7
        go_wp2_with fail
        go_end0
        exact ⟨rfl, HF.out.1, HF.out.2⟩
end Go.Proofs.Ytdelcndaogjngaa
