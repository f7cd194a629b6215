/- The document's Out, that is done. -/
import Derived.Test.YtdelcndaogjngaaFieRef4
import Derived.Maps.AppendAt
namespace Go.Proofs.Ytdelcndaogjngaa
open Go.RowKit
set_option linter.unusedVariables false
theorem infoPut : (Try.prog.info? 59).map (fun i => (i.zero, i.size, i.bytes)) = some (some (.agg #[.int .i64 0, .int .u32 0]), 2, 16) := by kernel_rfl
theorem two_news (w : World) (x y : Value) (t : TypeId) : ∀ j u, [x, y][j]? = some u → (w.alloc (.cells #[x, y] t)).cell? ((⟨w.heap.size, 0, none⟩ : Addr).add j) = some u := by
  intro j u hj
  rw [Go.WideShapes.add_plain, Nat.zero_add]
  match j, hj with
  | 0, hj => exact cell_row (heap_alloc_new _ _) hj
  | 1, hj => exact cell_row (heap_alloc_new _ _) hj
  | n + 2, hj => simp at hj
theorem putVs_snoc (l : List (Nat × Nat)) (m x : Nat) : putVs l ++ [.int .i64 (m : Int), .int .u32 (x : Int)] = putVs (l ++ [(m, x)]) := by simp [putVs]
set_option maxHeartbeats 2000000 in
theorem ref_out (R : RS) (m x : Nat) (w : World) (h : RefAt w R) (hm : m < R.nS) (hx : x < 4294967296) (hl : R.puts.length < 500) :
    Calls Try.prog 16 #[.pointer (some ⟨R.r, 0, none⟩), .int .i64 R.wt, .int .i64 (m : Int), .int .u32 (x : Int)] w fun e w' => e = .returned (.int .i64 0) ∧ (∃ R', RefAt w' R' ∧ R'.ins = R.ins ∧ R'.outs = R.outs ∧ R'.puts = R.puts ++ [(m, x)] ∧ LikeR w.heap.size R R') ∧ Only R.M w w' := by
  have c1 : w.cell? ⟨R.r, 1, none⟩ = some (.slice R.sa R.nS R.cap) := h.cell 1 _ rfl
  have c3 : w.cell? ⟨R.r, 3, none⟩ = some (.int .i64 R.wt) := h.cell 3 _ rfl
  have c6 : w.cell? ⟨R.r, 6, none⟩ = some R.vp := h.cell 6 _ rfl
  have hrl := h.hi.1
  have hS := h.nS
  have t1 : (R.wt == R.wt) = true := by simp
  have t2 : (R.wt != R.wt) = false := by simp
  have t3 : decide ((m : Int) < 0) = false := by first | (simp; done) | (simp; omega)
  have t4 : decide ((R.nS : Int) ≤ (m : Int)) = false := by first | (simp; done) | (simp; omega)
  obtain ⟨i0, hi, hz0, hz1, hz2⟩ := info_parts infoPut
  have HI := Lib.hid hi; have HZ0 := Lib.hid hz0; have HZ1 := Lib.hid hz1; have HZ2 := Lib.hid hz2
  have HP : Hid ((w.alloc (.cells #[.int .i64 (m : Int), .int .u32 (x : Int)] 59)).ownsRow 0 59 2 R.vp R.puts.length (putVs R.puts)) := h.puts.alloc _
  have HW : Hid (∀ j u, [Value.int .i64 (m : Int), .int .u32 (x : Int)][j]? = some u → (w.alloc (.cells #[.int .i64 (m : Int), .int .u32 (x : Int)] 59)).cell? ((⟨w.heap.size, 0, none⟩ : Addr).add j) = some u) := two_news _ _ _ _
  have H := Lib.hid h
  clear h hi hz0 hz1 hz2
  go_enter Try.func16, Try.ntmps16
  go_wp2_with (at_builtin; refine wpList_append_own_at _ rfl _ _ 47 rfl 0 59 i0 (.agg #[.int .i64 0, .int .u32 0]) 2 16 Try.underlying47 HI.out HZ0.out HZ1.out HZ2.out rfl (by decide) R.vp R.puts.length (putVs R.puts) rfl HP.out ⟨w.heap.size, 0, none⟩ 1 1 [.int .i64 (m : Int), .int .u32 (x : Int)] rfl rfl HW.out ?c2 ?c3 ?c4 ?c5 ?_)
  case c2 => intro u hu; simp at hu; rcases hu with rfl | rfl <;> rfl
  case c3 => unfold maxLen; omega
  case c4 => omega
  case c5 => omega
  intro v' w1 hown hgr _ hat
  have O1 : Hid (Only (fun b => R.puts ≠ [] ∧ b = R.bp) w w1) := (Only.of_below _ (alloc_below _ _)).trans (Only.grown hgr fun g e => .inr ⟨(H.out.bp g e).2, (H.out.bp g e).1⟩)
  obtain ⟨o, cp, rfl⟩ : ∃ o cp, v' = .slice (some ⟨o, 0, none⟩) (R.puts.length + 1) cp := by
    rcases hown.2 with ⟨_, h0⟩ | ⟨o, c, _, hv, _⟩
    · omega
    · exact ⟨o, c, hv⟩
  have OW := Lib.hid hown
  have HO : Hid ((R.puts ≠ [] ∧ o = R.bp) ∨ o = w.heap.size + 1) := by
    rcases hat with h | h
    · exact .inl ⟨(H.out.bp o h.symm).2, (H.out.bp o h.symm).1⟩
    · exact .inr (by simpa [Value.ownBlock] using h)
  have hob := (O1.out.block R.r hrl (fun e => (H.out.np e.1).2.2.1 e.2)).trans H.out.obj
  have d6 : w1.cell? ⟨R.r, 6, none⟩ = some R.vp := cell_row hob rfl
  have f6 : w1.frozen? ⟨R.r, 6, none⟩ = false := frozen_of_row _ _ _ _ _ hob
  have hl7 : R.r < w1.heap.size := heap_lt hob
  have HOB := Lib.hid hob
  have OL : Hid (o < w1.heap.size) := by
    rcases hown.2 with ⟨_, h0⟩ | ⟨o', c, cur, hv, h1, h2, _⟩
    · omega
    · cases hv; exact heap_lt h2
  clear hown hgr hat hob t1 t2 t3 t4
  go_wp2_with fail
  go_ret
  refine ⟨rfl, ⟨{ R with vp := .slice (some ⟨o, 0, none⟩) (R.puts.length + 1) cp, bp := o, puts := R.puts ++ [(m, x)] }, ?_, rfl, rfl, rfl, ?_⟩, ?_⟩
  · have l1 := H.out.lo; have l2 := H.out.hi; have l3 := H.out.ne; have l5 := OL.out; have l6 := O1.out.size
    have hne : R.lo ≤ o ∧ R.r ≠ o ∧ R.bi ≠ o ∧ R.bo ≠ o := by
      rcases HO.out with h | h
      · have l4 := H.out.np h.1; omega
      · omega
    have o2 : (w1.setCell ⟨R.r, 6, none⟩ (.slice (some ⟨o, 0, none⟩) (R.puts.length + 1) cp)).heap[R.r]? = _ := heap_setCell_same _ _ _ _ _ _ HOB.out
    have ho : Only (fun b => b = R.r) w1 (w1.setCell ⟨R.r, 6, none⟩ (.slice (some ⟨o, 0, none⟩) (R.puts.length + 1) cp)) := (Only.refl (fun b => b = R.r) w1).set 6 _ (.inr rfl)
    have l7 := ho.size
    refine ⟨o2, H.out.nI, H.out.nS, H.out.rd, H.out.wt, by simp; omega, fun p hp => ?_, ?_, ?_, ?_, ?_, fun k hk => ⟨(by simp [Value.ownBlock] at hk; exact hk.symm), by simp⟩, l1, ?_, l3, fun _ => ⟨hne.1, ?_, hne.2.1, hne.2.2.1, hne.2.2.2⟩, H.out.sab⟩
    · rcases List.mem_append.1 hp with h | h
      · exact H.out.lt p h
      · obtain rfl := List.mem_singleton.1 h
        exact ⟨hm, hx⟩
    · refine (H.out.safe.only0 O1.out (fun hz b off e hb e2 => ?_)).only0 ho (fun hz b off e hb e2 => ?_)
      · have h1 := H.out.sab hz b off e; have h2 := (H.out.np e2.1).1; have h3 := e2.2; omega
      · have h1 := H.out.sab hz b off e; have h2 : b = R.r := e2; omega
    · exact (H.out.ins.only O1.out (fun _ e => (H.out.np e.1).2.2.2.1 e.2)).only ho (fun _ e => l3.1 e.symm)
    · exact (H.out.outs.only O1.out (fun _ e => (H.out.np e.1).2.2.2.2 e.2)).only ho (fun _ e => l3.2.1 e.symm)
    · have hk := OW.out.kept (grown_setCell (grown_refl w1 (some R.r)) (o := 6) (.slice (some ⟨o, 0, none⟩) (R.puts.length + 1) cp)) (.inr (fun e => by simp [Value.ownBlock] at e; exact hne.2.1 e.symm))
      rw [putVs_snoc] at hk
      rw [List.length_append]
      exact hk
    · show R.r < _ ∧ R.bi < _ ∧ R.bo < _
      omega
    · show o < _
      omega
  · refine ⟨rfl, rfl, rfl, rfl, rfl, rfl, rfl, rfl, rfl, .inl rfl, .inl rfl, fun _ => ?_⟩
    rcases HO.out with h | h
    · exact .inl h
    · right; show w.heap.size ≤ o; omega
  · exact (O1.out.mono (fun i _ h => .inr (.inr h))).set _ _ (.inr (.inl rfl))
end Go.Proofs.Ytdelcndaogjngaa
