/- The document's Commit. -/
import Derived.Test.YtdelcndaogjngaaFieRef7
namespace Go.Proofs.Ytdelcndaogjngaa
open Go.RowKit
set_option linter.unusedVariables false
/-- Behind k of the words that were put out. -/
def RS.at (R : RS) (av : Option Addr) (cv bw k : Nat) : RS := { R with vo := .slice av R.nS cv, bo := bw, outs := replay R.safe (R.puts.take k) }
theorem RefAt.drew {w : World} {R : RS} (h : RefAt w R) : RefAt w.drew R := ⟨h.obj, h.nI, h.nS, h.rd, h.wt, h.len, h.lt, h.safe, h.ins, h.outs, h.puts, h.bp, h.lo, h.hi, h.ne, h.np, h.sab⟩
theorem RefAt.noPuts {w : World} {R : RS} (h : RefAt w R) : RefAt (w.setCell ⟨R.r, 6, none⟩ (.slice none 0 0)) { R with vp := .slice none 0 0, puts := [] } := by
  have o1 : (w.setCell ⟨R.r, 6, none⟩ (.slice none 0 0)).heap[R.r]? = _ := heap_setCell_same _ _ _ _ _ _ h.obj
  have ho : Only (fun b => b = R.r) w (w.setCell ⟨R.r, 6, none⟩ (.slice none 0 0)) := (Only.refl (fun b => b = R.r) w).set 6 _ (.inr rfl)
  have l2 := h.hi; have l7 := ho.size
  refine ⟨o1, h.nI, h.nS, h.rd, h.wt, Nat.zero_le _, fun p hp => absurd hp (by simp), ?_, ?_, ?_, World.ownsRow_nil _ _ _ _, fun k hk => (by cases hk), h.lo, ?_, h.ne, fun h => absurd rfl h, h.sab⟩
  · exact h.safe.only0 ho (fun hz b off e hb e2 => by have h1 := h.sab hz b off e; have h2 : b = R.r := e2; have := h.lo; omega)
  · exact h.ins.only ho (fun _ e => h.ne.1 e.symm)
  · exact h.outs.only ho (fun _ e => h.ne.2.1 e.symm)
  · show R.r < _ ∧ R.bi < _ ∧ R.bo < _
    omega
theorem RefAt.setOut {w : World} {R : RS} {av : Option Addr} {cv bw k : Nat} {p : Nat × Nat} (h : RefAt w (R.at av cv bw k)) (hp : R.puts[k]? = some p) : RefAt (w.setCell ⟨bw, p.1, none⟩ (.int .u32 ((p.2 : Nat) : Int))) (R.at av cv bw (k + 1)) := by
  have hq := h.lt p (List.mem_of_getElem? hp)
  have hn := h.np (by show R.puts ≠ []; intro e; rw [e] at hp; simp at hp)
  have ho : Only (fun b => b = bw) w (w.setCell ⟨bw, p.1, none⟩ (.int .u32 ((p.2 : Nat) : Int))) := (Only.refl (fun b => b = bw) w).set p.1 _ (.inr rfl)
  have l1 := h.lo; have l2 := h.hi; have l3 := h.ne; have l7 := ho.size
  simp only [RS.at] at l1 l2 l3 hn hq
  refine ⟨(ho.block R.r l2.1 (fun e => l3.2.1 e)).trans h.obj, h.nI, h.nS, h.rd, h.wt, h.len, h.lt, ?_, ?_, ?_, ?_, h.bp, h.lo, ?_, h.ne, fun _ => ?_, h.sab⟩
  · exact h.safe.only0 ho (fun hz b off e hb e2 => by have h1 := h.sab hz b off e; have h2 : b = bw := e2; simp only [RS.at] at h1; omega)
  · exact h.ins.only ho (fun _ e => l3.2.2 e)
  · obtain ⟨a, c, e1, e2, e3, e4⟩ := h.outs
    refine ⟨a, c, e1, e2, e3, fun hz => ⟨(e4 hz).1, ((e4 hz).2.set (i := p.1) _).congr fun i hi => ?_⟩⟩
    show (if i = p.1 then Value.int .u32 ((p.2 : Nat) : Int) else Value.int .u32 ((replay R.safe (R.puts.take k) i : Nat) : Int)) = Value.int .u32 ((replay R.safe (R.puts.take (k + 1)) i : Nat) : Int)
    rw [replay_take _ _ _ _ hp]
    unfold putOn
    by_cases e : i = p.1
    · rw [if_pos e, if_pos e]
    · rw [if_neg e, if_neg e]
  · refine h.puts.kept (grown_setCell (grown_refl w (some bw)) (o := p.1) _) (.inr ?_)
    intro e
    exact hn.2.2.2.2 (h.bp bw e).1
  · show R.r < _ ∧ R.bi < _ ∧ bw < _
    omega
  · show R.lo ≤ R.bp ∧ R.bp < _ ∧ R.r ≠ R.bp ∧ R.bi ≠ R.bp ∧ bw ≠ R.bp
    omega
theorem putVs_at : ∀ (l : List (Nat × Nat)) (k : Nat) (p : Nat × Nat), l[k]? = some p → (putVs l)[2 * k]? = some (.int .i64 (p.1 : Int)) ∧ (putVs l)[2 * k + 1]? = some (.int .u32 (p.2 : Int))
  | [], k, p, h => by simp at h
  | q :: l, 0, p, h => by
    obtain rfl : q = p := by simpa using h
    exact ⟨rfl, rfl⟩
  | q :: l, k + 1, p, h => by
    have := putVs_at l k p (by simpa using h)
    rw [show 2 * (k + 1) = 2 * k + 1 + 1 by omega]
    exact this
theorem RefAt.put {w : World} {R : RS} (h : RefAt w R) (k : Nat) (p : Nat × Nat) (hp : R.puts[k]? = some p) : ∃ g c, R.vp = .slice (some ⟨g, 0, none⟩) R.puts.length c ∧ w.cell? ⟨g, k * 2, none⟩ = some (.int .i64 (p.1 : Int)) ∧ w.cell? ⟨g, k * 2 + 1, none⟩ = some (.int .u32 (p.2 : Int)) := by
  have hk : k < R.puts.length := (List.getElem?_eq_some_iff.1 hp).1
  have add : ∀ g j : Nat, (⟨g, 0, none⟩ : Addr).add j = ⟨g, j, none⟩ := fun g j => by unfold Addr.add; split <;> simp_all
  obtain ⟨h1, h2⟩ := putVs_at R.puts k p hp
  rcases h.puts.2 with ⟨_, h0⟩ | ⟨g, c, cur, hv, _⟩
  · omega
  · have hc := h.puts.cells (g := g) (by rw [hv]; rfl)
    refine ⟨g, c, hv, ?_, ?_⟩
    · have := hc (2 * k) _ h1; rwa [add, Nat.mul_comm] at this
    · have := hc (2 * k + 1) _ h2; rwa [add, Nat.mul_comm] at this
set_option maxHeartbeats 4000000 in
theorem ref_commit (R : RS) (ok : Bool) (w : World) (h : RefAt w R) :
    Calls Try.prog 18 #[.pointer (some ⟨R.r, 0, none⟩), .bool ok] w fun e w' => e = .returned (.tuple #[]) ∧ (∃ R', RefAt w' R' ∧ R'.ins = R.ins ∧ R'.outs = (if ok then replay R.safe R.puts else R.safe) ∧ R'.puts = [] ∧ LikeR w.heap.size R R') ∧ Only (fun b => b = R.r) w w' := by
  have c1 : w.cell? ⟨R.r, 1, none⟩ = some (.slice R.sa R.nS R.cap) := h.cell 1 _ rfl
  have hlt := h.hi.1
  have hS := h.nS
  have HE0 : Hid ((w.alloc (.cells #[] 23)).heap[w.heap.size]? = some (.cells #[] 23 (0, 0))) := heap_alloc_new _ _
  have HX : Hid (SliceAt (w.alloc (.cells #[] 23)) R.sa R.nS (uV R.safe)) := h.safe.below (alloc_below _ _)
  have H := Lib.hid h
  clear h
  cases ok
  case false =>
    go_enter Try.func18, Try.ntmps18
    go_wp2_with (at_builtin; refine wpList_words rfl _ _ rfl (gs := w.heap.size) rfl HE0.out R.sa R.nS R.cap R.safe rfl (by omega) HX.out ?_)
    intro v w7 hws
    have Y7 : Hid (Below w.heap.size w w7) := ((Below.refl _ w).alloc (Nat.le_refl _) _).grown hws.2 (by simp) (fun k e => by cases e; exact Nat.le_refl _)
    obtain ⟨bw, ⟨av, cv, rfl, k1, k2, k3⟩, hbw, hbx⟩ := hws.fresh
    have R8 : Hid (RefAt (w7.setCell ⟨R.r, 5, none⟩ (.slice av R.nS cv)) { R with vo := .slice av R.nS cv, bo := bw, outs := R.safe }) := H.out.newOuts Y7.out ⟨_, _, rfl, k1, k2, k3⟩ hbw (hbx (by have h1 := hws.2.size; simp at h1; omega))
    have HBW := Lib.hid hbw
    have hob := (Y7.out.block _ hlt).trans H.out.obj
    have d5 : w7.cell? ⟨R.r, 5, none⟩ = some R.vo := cell_row hob rfl
    have f5 : w7.frozen? ⟨R.r, 5, none⟩ = false := frozen_of_row _ _ _ _ _ hob
    have hl7 : R.r < w7.heap.size := heap_lt hob
    have O8 : Hid (Only (fun b => b = R.r) w (w7.setCell ⟨R.r, 5, none⟩ (.slice av R.nS cv))) := (Only.of_below (fun b => b = R.r) Y7.out).set 5 _ (.inr rfl)
    clear hws hbw hbx k1 k2 k3 hob HE0 HX
    go_wp2_with fail
    generalize w7.setCell ⟨R.r, 5, none⟩ (.slice av R.nS cv) = w8 at *
    clear d5 f5 hl7 c1
    go_loopw [4] (fun i wr => ∃ k : Nat, k ≤ R.puts.length ∧ i = .int .i64 k ∧ RefAt wr (R.at av cv bw k) ∧ (k = 0 ∨ false = true) ∧ Only (fun b => b = R.r) w wr) (fun i _ => R.puts.length - (intOf i).toNat)
    case atStart => exact ⟨0, Nat.zero_le _, rfl, R8.out, .inl rfl, O8.out⟩
    case round =>
      obtain ⟨k, hk, rfl, r1, hko, r2⟩ := hrel
      have RK := Lib.hid r1; have OK := Lib.hid r2; have HKO := Lib.hid hko
      have c6 : wr.cell? ⟨R.r, 6, none⟩ = some R.vp := r1.cell 6 _ rfl
      have hl8 : R.r < wr.heap.size := r1.hi.1
      clear r1 r2 hko
      obtain ⟨va, vc, hvp⟩ : ∃ va vc, R.vp = .slice va R.puts.length vc := by
        rcases H.out.puts.2 with ⟨h1, h2⟩ | ⟨g, c, cur, hv, _⟩
        · exact ⟨none, 0, by rw [h1, h2]⟩
        · exact ⟨_, _, hv⟩
      have HVP := Lib.hid hvp
      rw [hvp] at c6
      clear hvp
      have hk0 : (0 : Int) ≤ (k : Int) := by omega
      have hlen := H.out.len
      have f6 : wr.frozen? ⟨R.r, 6, none⟩ = false := frozen_of_row _ _ _ _ _ RK.out.obj
      have HZ : Hid (replay R.safe (R.puts.take k) = R.safe) := by
        have h1 := HKO.out
        have h2 : k = 0 := by simpa using h1
        show _ = _
        rw [h2]; rfl
      by_cases hlt : k < R.puts.length
      · have hli : (k : Int) < (R.puts.length : Int) := by omega
        go_wp2_with fail
        go_end0
        refine ⟨rfl, ⟨{ R.at av cv bw k with vp := .slice none 0 0, puts := [] }, RK.out.noPuts, rfl, ?_, rfl, ?_⟩, OK.out.set 6 _ (.inr rfl)⟩
        · exact HZ.out
        · exact ⟨rfl, rfl, rfl, rfl, rfl, rfl, rfl, rfl, rfl, .inl rfl, .inr HBW.out, fun h => absurd rfl h⟩
      · obtain rfl : k = R.puts.length := by omega
        go_wp2_with fail
        go_end0
        refine ⟨rfl, ⟨{ R.at av cv bw R.puts.length with vp := .slice none 0 0, puts := [] }, RK.out.noPuts, rfl, ?_, rfl, ?_⟩, OK.out.set 6 _ (.inr rfl)⟩
        · exact HZ.out
        · exact ⟨rfl, rfl, rfl, rfl, rfl, rfl, rfl, rfl, rfl, .inl rfl, .inr HBW.out, fun h => absurd rfl h⟩
  case true =>
    go_enter Try.func18, Try.ntmps18
    go_wp2_with (at_builtin; refine wpList_words rfl _ _ rfl (gs := w.heap.size) rfl HE0.out R.sa R.nS R.cap R.safe rfl (by omega) HX.out ?_)
    intro v w7 hws
    have Y7 : Hid (Below w.heap.size w w7) := ((Below.refl _ w).alloc (Nat.le_refl _) _).grown hws.2 (by simp) (fun k e => by cases e; exact Nat.le_refl _)
    obtain ⟨bw, ⟨av, cv, rfl, k1, k2, k3⟩, hbw, hbx⟩ := hws.fresh
    have R8 : Hid (RefAt (w7.setCell ⟨R.r, 5, none⟩ (.slice av R.nS cv)) { R with vo := .slice av R.nS cv, bo := bw, outs := R.safe }) := H.out.newOuts Y7.out ⟨_, _, rfl, k1, k2, k3⟩ hbw (hbx (by have h1 := hws.2.size; simp at h1; omega))
    have HBW := Lib.hid hbw
    have hob := (Y7.out.block _ hlt).trans H.out.obj
    have d5 : w7.cell? ⟨R.r, 5, none⟩ = some R.vo := cell_row hob rfl
    have f5 : w7.frozen? ⟨R.r, 5, none⟩ = false := frozen_of_row _ _ _ _ _ hob
    have hl7 : R.r < w7.heap.size := heap_lt hob
    have O8 : Hid (Only (fun b => b = R.r) w (w7.setCell ⟨R.r, 5, none⟩ (.slice av R.nS cv))) := (Only.of_below (fun b => b = R.r) Y7.out).set 5 _ (.inr rfl)
    clear hws hbw hbx k1 k2 k3 hob HE0 HX
    go_wp2_with fail
    generalize w7.setCell ⟨R.r, 5, none⟩ (.slice av R.nS cv) = w8 at *
    clear d5 f5 hl7 c1
    go_loopw [4] (fun i wr => ∃ k : Nat, k ≤ R.puts.length ∧ i = .int .i64 k ∧ RefAt wr (R.at av cv bw k) ∧ (k = 0 ∨ true = true) ∧ Only (fun b => b = R.r) w wr) (fun i _ => R.puts.length - (intOf i).toNat)
    case atStart => exact ⟨0, Nat.zero_le _, rfl, R8.out, .inl rfl, O8.out⟩
    case round =>
      obtain ⟨k, hk, rfl, r1, hko, r2⟩ := hrel
      have RK := Lib.hid r1; have OK := Lib.hid r2; have HKO := Lib.hid hko
      have c6 : wr.cell? ⟨R.r, 6, none⟩ = some R.vp := r1.cell 6 _ rfl
      have hl8 : R.r < wr.heap.size := r1.hi.1
      clear r1 r2 hko
      obtain ⟨va, vc, hvp⟩ : ∃ va vc, R.vp = .slice va R.puts.length vc := by
        rcases H.out.puts.2 with ⟨h1, h2⟩ | ⟨g, c, cur, hv, _⟩
        · exact ⟨none, 0, by rw [h1, h2]⟩
        · exact ⟨_, _, hv⟩
      have HVP := Lib.hid hvp
      rw [hvp] at c6
      clear hvp
      have hk0 : (0 : Int) ≤ (k : Int) := by omega
      have hlen := H.out.len
      have f6 : wr.frozen? ⟨R.r, 6, none⟩ = false := frozen_of_row _ _ _ _ _ RK.out.obj
      by_cases hlt : k < R.puts.length
      · have hli : (k : Int) < (R.puts.length : Int) := by omega
        obtain ⟨p, hp⟩ : ∃ p, R.puts[k]? = some p := ⟨R.puts[k], List.getElem?_eq_getElem hlt⟩
        have hpl := H.out.lt p (List.mem_of_getElem? hp)
        obtain ⟨g, c, hv, -, -⟩ := RK.out.put k p hp
        have hv' : R.vp = .slice (some ⟨g, 0, none⟩) R.puts.length c := hv
        rw [HVP.out] at hv'
        obtain ⟨rfl, rfl⟩ : va = some ⟨g, 0, none⟩ ∧ vc = c := by cases hv'; exact ⟨rfl, rfl⟩
        clear hv hv'
        obtain ⟨a1, c1, e1, -, -, e4⟩ := RK.out.outs
        obtain ⟨rfl, rfl⟩ : av = a1 ∧ cv = c1 := by cases e1; exact ⟨rfl, rfl⟩
        have e5 := (e4 (by show 0 < R.nS; omega)).1
        have e6 : av = some ⟨bw, 0, none⟩ := e5
        clear e1 e4 e5
        subst e6
        have HP := Lib.hid hp
        clear hp
        obtain ⟨U, G, hUn, hU1, hU2⟩ := class_of (fun V => RefAt V (R.at (some ⟨bw, 0, none⟩) cv bw k) ∧ Only (fun b => b = R.r) w V) (W := wr.drew) ⟨RK.out.drew, OK.out.drew⟩
        have q5 : ∀ u, (G u).cell? ⟨R.r, 5, none⟩ = some (.slice (some ⟨bw, 0, none⟩) R.nS cv) := fun u => (hU1 u).1.cell 5 _ rfl
        have q6 : ∀ u, (G u).cell? ⟨R.r, 6, none⟩ = some (.slice (some ⟨g, 0, none⟩) R.puts.length vc) := fun u => by rw [← HVP.out]; exact (hU1 u).1.cell 6 _ rfl
        have qp : ∀ u, (G u).cell? ⟨g, k * 2, none⟩ = some (.int .i64 (p.1 : Int)) ∧ (G u).cell? ⟨g, k * 2 + 1, none⟩ = some (.int .u32 (p.2 : Int)) := fun u => by
          obtain ⟨g', c', hv, h1, h2⟩ := (hU1 u).1.put k p HP.out
          have hv' : R.vp = .slice (some ⟨g', 0, none⟩) R.puts.length c' := hv
          rw [HVP.out] at hv'
          cases hv'
          exact ⟨h1, h2⟩
        have qa := fun u => (qp u).1
        have qb := fun u => (qp u).2
        have HU1 := Lib.hid hU1; have HU2 := Lib.hid hU2
        clear hU1 hU2 qp
        have hfm : (Try.prog).follows .mixedOrders = true := by kernel_rfl
        have hpi : (p.1 : Int) < (R.nS : Int) := by omega
        have hp0 : (0 : Int) ≤ (p.1 : Int) := by omega
        go_wp2_with fail
        obtain ⟨m, hm⟩ : ∃ m : Nat, 4 ≤ m := ⟨4, Nat.le_refl _⟩
        refine (wpIn_wide (n := m)).1 ?_
        refine wpIn_region_tail_at 21 G hfm rfl (by kernel_rfl) (HU2.out _ ⟨RK.out.drew, OK.out.drew⟩) ?_
        simp only [List.take_succ_cons, List.take_zero, List.getD_cons_succ, List.getD_cons_zero]
        repeat (gi_big_quiet_step (fail))
        refine wpQuietIn_nil ?_
        intro u
        obtain ⟨z1, z2⟩ := HU1.out u
        have FV := Lib.hid z1; have OV := Lib.hid z2
        clear z1 z2 q5 q6 qa qb HU1 HU2
        generalize G u = V at *
        clear G hUn
        obtain ⟨a', c', e1, e2, e3, e4⟩ := FV.out.outs
        have hrow := (e4 (show 0 < R.nS by omega)).2
        have e6 : V.cell? ⟨bw, p.1, none⟩ = some (.int .u32 (((R.at (some ⟨bw, 0, none⟩) cv bw k).outs p.1 : Nat) : Int)) := hrow.cell hpl.1
        have f6 : V.frozen? ⟨bw, p.1, none⟩ = false := hrow.frozen p.1
        clear hrow e1 e2 e3 e4
        unfold Oper.wpIn
        go_simp
        clear e6 f6
        go_wp2_with fail
        go_roundw
        case rel => exact ⟨k + 1, by omega, by go_num, FV.out.setOut HP.out, .inr trivial, OV.out.set p.1 _ (.inl HBW.out)⟩
        case measure => simp [intOf]; omega
      · obtain rfl : k = R.puts.length := by omega
        have HZ : Hid (replay R.safe (R.puts.take R.puts.length) = replay R.safe R.puts) := by
          show _ = _
          rw [List.take_length]
        go_wp2_with fail
        go_end0
        refine ⟨rfl, ⟨{ R.at av cv bw R.puts.length with vp := .slice none 0 0, puts := [] }, RK.out.noPuts, rfl, ?_, rfl, ?_⟩, OK.out.set 6 _ (.inr rfl)⟩
        · exact HZ.out
        · exact ⟨rfl, rfl, rfl, rfl, rfl, rfl, rfl, rfl, rfl, .inl rfl, .inr HBW.out, fun h => absurd rfl h⟩
end Go.Proofs.Ytdelcndaogjngaa
