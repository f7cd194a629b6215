/- Copy. -/
import Derived.Test.YtdelcndaogjngaaFieCom
import Derived.Deep.RegionHeld3
namespace Go.Proofs.Ytdelcndaogjngaa
open Go.RowKit
set_option linter.unusedVariables false
/-- The same field, elsewhere. -/
def FS.to (f : FS) (lo hi g bi bo bp bh : Nat) (vi vo vp vh : Value) : FS := { f with lo := lo, hi := hi, g := g, bi := bi, bo := bo, bp := bp, bh := bh, vi := vi, vo := vo, vp := vp, vh := vh }
def CopyPost (f : FS) (w : World) (e : Ending) (w' : World) : Prop := ∃ hi g bi bo bp bh vi vo vp vh, e = .returned (.pointer (some ⟨g, 0, none⟩)) ∧ FieldAt w' (f.to w.heap.size hi g bi bo bp bh vi vo vp vh) ∧ Below w.heap.size w w'
set_option maxHeartbeats 8000000 in
theorem copy_any (f : FS) (w : World) (h : FieldAt w f) (hbs : 0 < f.nS → f.bs < w.heap.size) :
    Calls Try.prog 19 #[.pointer (some ⟨f.g, 0, none⟩)] w (CopyPost f w) := by
  have H := Lib.hid h
  obtain ⟨ai, ci, hvi, i1, i2, i3⟩ := h.ins.slice
  obtain ⟨ao, co, hvo, o1, o2, o3⟩ := h.outs.slice
  obtain ⟨ap, cp, hvp, p1, p2, p3⟩ := h.put.slice
  obtain ⟨ah, ch, hvh, h1, h2, h3⟩ := h.has.slice
  obtain ⟨sa, sc, hvs, s1, s2, s3⟩ := h.safe.slice
  have hnI := h.ok.nI
  have hnS := h.ok.nS
  have HI := Lib.hid i3; have HO := Lib.hid o3; have HP := Lib.hid p3; have HH := Lib.hid h3
  have VI := Lib.hid hvi; have VO := Lib.hid hvo; have VP := Lib.hid hvp; have VH := Lib.hid hvh; have VS := Lib.hid hvs
  have HB := Lib.hid hbs
  have HC : Hid (∀ V : World, V.heap[f.g]? = some (.cells f.row 56 (0, 0)) → (V.cell? ⟨f.g, 0, none⟩ = some (.int .i64 (f.nI : Int)) ∧ V.cell? ⟨f.g, 1, none⟩ = some (.slice sa f.nS sc) ∧ V.cell? ⟨f.g, 2, none⟩ = some (.int .u32 (f.rd : Int)) ∧ V.cell? ⟨f.g, 3, none⟩ = some (.int .i64 f.wr)) ∧
      V.cell? ⟨f.g, 4, none⟩ = some (.slice ai f.nI ci) ∧ V.cell? ⟨f.g, 5, none⟩ = some (.slice ao f.nS co) ∧ V.cell? ⟨f.g, 6, none⟩ = some (.slice ap f.nS cp) ∧ V.cell? ⟨f.g, 7, none⟩ = some (.slice ah f.nS ch)) := fun V hV => by
    rw [← hvi, ← hvo, ← hvp, ← hvh, ← hvs]
    exact ⟨⟨cell_row hV rfl, cell_row hV rfl, cell_row hV rfl, cell_row hV rfl⟩, cell_row hV rfl, cell_row hV rfl, cell_row hV rfl, cell_row hV rfl⟩
  clear h i3 o3 p3 h3 hvi hvo hvp hvh hvs s3 hbs
  have W0 : Hid (w.heap[f.g]? = some (.cells f.row 56 (0, 0))) := H.out.obj
  have B0 : Hid (Below w.heap.size w w.drew) := (Below.refl _ w).drew
  go_enter Try.func19, Try.ntmps19
  go_wp2_with fail
  go_region_held3 (fun V => (V.cell? ⟨f.g, 0, none⟩ = some (.int .i64 (f.nI : Int)) ∧ V.cell? ⟨f.g, 1, none⟩ = some (.slice sa f.nS sc) ∧ V.cell? ⟨f.g, 2, none⟩ = some (.int .u32 (f.rd : Int)) ∧ V.cell? ⟨f.g, 3, none⟩ = some (.int .i64 f.wr)) ∧ V.cell? ⟨f.g, 4, none⟩ = some (.slice ai f.nI ci) ∧ V.cell? ⟨f.g, 5, none⟩ = some (.slice ao f.nS co) ∧ V.cell? ⟨f.g, 6, none⟩ = some (.slice ap f.nS cp) ∧ V.cell? ⟨f.g, 7, none⟩ = some (.slice ah f.nS ch))
    (first | exact HC.out _ ((((Below.refl _ w4).alloc (Nat.le_refl _) _).block _ (heap_lt W4.out)).trans W4.out) | exact HC.out _ W4.out | exact HC.out _ W3.out | exact HC.out _ W2.out | exact HC.out _ W1.out | exact HC.out _ W0.out)
    (first
      | (go_at_call 28; (with_reducible refine (clone_bool ah f.nS ch (hV f.has) w3 (hV_one _) (by omega) (HH.out.below B3.out)).mono ?_); rintro e w4 ⟨v4, rfl, ⟨b4, hs4, hb4⟩, hbb⟩; obtain ⟨a4, c4, rfl, hs4⟩ := hs4; have S4 := Lib.hid hs4; have L4 := Lib.hid hb4; have C4 := Lib.hid hbb; have B4 : Hid (Below w.heap.size w w4) := B3.out.trans (hbb.mono B3.out.size); have W4 : Hid (w4.heap[f.g]? = some (.cells f.row 56 (0, 0))) := (hbb.block _ (heap_lt W3.out)).trans W3.out; clear hs4 hb4 hbb)
      | (go_at_call 24; (with_reducible refine (clone_u32 ap f.nS cp (uV f.put) w2 (uV_one _) (by omega) (HP.out.below B2.out)).mono ?_); rintro e w3 ⟨v3, rfl, ⟨b3, hs3, hb3⟩, hbb⟩; obtain ⟨a3, c3, rfl, hs3⟩ := hs3; have S3 := Lib.hid hs3; have L3 := Lib.hid hb3; have C3 := Lib.hid hbb; have B3 : Hid (Below w.heap.size w w3) := B2.out.trans (hbb.mono B2.out.size); have W3 : Hid (w3.heap[f.g]? = some (.cells f.row 56 (0, 0))) := (hbb.block _ (heap_lt W2.out)).trans W2.out; clear hs3 hb3 hbb)
      | (go_at_call 24; (with_reducible refine (clone_u32 ao f.nS co (uV f.outs) w1 (uV_one _) (by omega) (HO.out.below B1.out)).mono ?_); rintro e w2 ⟨v2, rfl, ⟨b2, hs2, hb2⟩, hbb⟩; obtain ⟨a2, c2, rfl, hs2⟩ := hs2; have S2 := Lib.hid hs2; have L2 := Lib.hid hb2; have C2 := Lib.hid hbb; have B2 : Hid (Below w.heap.size w w2) := B1.out.trans (hbb.mono B1.out.size); have W2 : Hid (w2.heap[f.g]? = some (.cells f.row 56 (0, 0))) := (hbb.block _ (heap_lt W1.out)).trans W1.out; clear hs2 hb2 hbb)
      | (go_at_call 24; (with_reducible refine (clone_u32 ai f.nI ci (uV f.ins) w.drew (uV_one _) (by omega) (HI.out.below B0.out)).mono ?_); rintro e w1 ⟨v1, rfl, ⟨b1, hs1, hb1⟩, hbb⟩; obtain ⟨a1, c1, rfl, hs1⟩ := hs1; have S1 := Lib.hid hs1; have L1 := Lib.hid hb1; have C1 := Lib.hid hbb; have B1 : Hid (Below w.heap.size w w1) := B0.out.trans hbb; have W1 : Hid (w1.heap[f.g]? = some (.cells f.row 56 (0, 0))) := (hbb.block _ (heap_lt W0.out)).trans W0.out; clear hs1 hb1 hbb))
  go_wp2_with fail
  go_ret
  have e1 := C1.out.size
  have e2 := C2.out.size
  have e3 := C3.out.size
  have e4 := C4.out.size
  have e0 : w.drew.heap.size = w.heap.size := rfl
  have l1 := L1.out; have l2 := L2.out; have l3 := L3.out; have l4 := L4.out
  have hB5 : Below w4.heap.size w4 (w4.alloc (.cells #[.int .i64 (f.nI : Int), .slice sa f.nS sc, .int .u32 (f.rd : Int), .int .i64 f.wr, .slice a1 f.nI c1, .slice a2 f.nS c2, .slice a3 f.nS c3, .slice a4 f.nS c4] 56)) := (Below.refl _ w4).alloc (Nat.le_refl _) _
  refine ⟨w4.heap.size + 1, w4.heap.size, b1, b2, b3, b4, .slice a1 f.nI c1, .slice a2 f.nS c2, .slice a3 f.nS c3, .slice a4 f.nS c4, rfl, ⟨?_, ?_, ?_, ?_, ?_, ?_, ?_, by simp [FS.to]⟩, B4.out.trans (hB5.mono B4.out.size)⟩
  · have := heap_alloc_new w4 (.cells #[.int .i64 (f.nI : Int), .slice sa f.nS sc, .int .u32 (f.rd : Int), .int .i64 f.wr, .slice a1 f.nI c1, .slice a2 f.nS c2, .slice a3 f.nS c3, .slice a4 f.nS c4] 56)
    show _ = some (Obj.cells #[.int .i64 (f.nI : Int), f.vs, .int .u32 (f.rd : Int), .int .i64 f.wr, .slice a1 f.nI c1, .slice a2 f.nS c2, .slice a3 f.nS c3, .slice a4 f.nS c4] 56 (0, 0))
    rw [VS.out]; exact this
  · have hb := HB.out
    refine ⟨H.out.ok.nI, H.out.ok.nS, H.out.ok.rd, H.out.ok.wr, H.out.ok.safe, H.out.ok.ins, H.out.ok.outs, H.out.ok.put, ?_, ?_, ?_, ?_⟩
    · show w.heap.size ≤ w4.heap.size ∧ w4.heap.size < w4.heap.size + 1; omega
    · intro hp; show w.heap.size ≤ b1 ∧ b1 < w4.heap.size + 1 ∧ b1 ≠ w4.heap.size; have := l1 hp; omega
    · intro hp
      have := l2 hp; have := l3 hp; have := l4 hp; have := hb hp
      show (w.heap.size ≤ b2 ∧ b2 < w4.heap.size + 1 ∧ b2 ≠ w4.heap.size) ∧ (w.heap.size ≤ b3 ∧ b3 < w4.heap.size + 1 ∧ b3 ≠ w4.heap.size) ∧ (w.heap.size ≤ b4 ∧ b4 < w4.heap.size + 1 ∧ b4 ≠ w4.heap.size) ∧ b2 ≠ b3 ∧ b2 ≠ b4 ∧ b3 ≠ b4 ∧ f.bs ≠ b2 ∧ f.bs ≠ b3 ∧ f.bs ≠ b4 ∧ f.bs ≠ w4.heap.size
      omega
    · intro hq hp
      have := l1 hq; have := l2 hp; have := l3 hp; have := l4 hp; have := hb hp
      show b1 ≠ b2 ∧ b1 ≠ b3 ∧ b1 ≠ b4 ∧ b1 ≠ f.bs
      omega
  · have h0 := H.out.safe
    exact h0.same fun hp => (hB5.block _ (by have := HB.out hp; omega)).trans (B4.out.block _ (HB.out hp))
  · have h0 : SlAt w1 (.slice a1 f.nI c1) b1 23 f.nI (uV f.ins) := ⟨a1, c1, rfl, S1.out⟩
    exact h0.same fun hp => by have := l1 hp; exact (hB5.block _ (by omega)).trans ((C4.out.block _ (by omega)).trans ((C3.out.block _ (by omega)).trans (C2.out.block _ (by omega))))
  · have h0 : SlAt w2 (.slice a2 f.nS c2) b2 23 f.nS (uV f.outs) := ⟨a2, c2, rfl, S2.out⟩
    exact h0.same fun hp => by have := l2 hp; exact (hB5.block _ (by omega)).trans ((C4.out.block _ (by omega)).trans (C3.out.block _ (by omega)))
  · have h0 : SlAt w3 (.slice a3 f.nS c3) b3 23 f.nS (uV f.put) := ⟨a3, c3, rfl, S3.out⟩
    exact h0.same fun hp => by have := l3 hp; exact (hB5.block _ (by omega)).trans (C4.out.block _ (by omega))
  · have h0 : SlAt w4 (.slice a4 f.nS c4) b4 4 f.nS (hV f.has) := ⟨a4, c4, rfl, S4.out⟩
    exact h0.same fun hp => by have := l4 hp; exact hB5.block _ (by omega)
end Go.Proofs.Ytdelcndaogjngaa
