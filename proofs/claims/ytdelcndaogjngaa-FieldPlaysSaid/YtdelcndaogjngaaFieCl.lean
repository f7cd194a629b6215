/- slices.Clone; Ins, Outs, Latch. -/
import Derived.Test.YtdelcndaogjngaaFieMem
import Derived.WalkSpells
import Derived.Outline
namespace Go.Proofs.Ytdelcndaogjngaa
open Go.RowKit
set_option linter.unusedVariables false
theorem info23 : (Try.prog.info? 23).map (fun i => (i.zero, i.size, i.bytes)) = some (some (.int .u32 0), 1, 4) := by kernel_rfl
theorem infoB : (Try.prog.info? 4).map (fun i => (i.zero, i.size, i.bytes)) = some (some (.bool false), 1, 1) := by kernel_rfl
set_option maxHeartbeats 2000000 in
theorem clone_u32 (a : Option Addr) (n c : Nat) (V : Nat → Value) (w : World) (hV : ∀ i, (V i).oneCell' = true) (hn : n ≤ 1000000) (hs : SliceAt w a n V) :
    Calls Try.prog 24 #[.slice a n c] w fun e w' => ∃ v, e = .returned v ∧ (∃ b, SlAt w' v b 23 n V ∧ (0 < n → w.heap.size ≤ b ∧ b < w'.heap.size)) ∧ Below w.heap.size w w' := by
  cases a with
  | none =>
    have hn0 : n = 0 := hs.elim id (fun h => by obtain ⟨b, off, h, _⟩ := h; cases h)
    subst hn0
    have hk : ∀ w : World, (binOp .eql 22 (.slice none 0 c) (.slice none 0 0)).run Try.prog w = .ok (.bool true) w := fun w => Lib.run_eql_slice_nil w _ _ none 0 c 0 0 Try.underlying22
    go_enter Try.func24, Try.ntmps24
    go_wp2_with fail
    go_ret
    exact ⟨_, rfl, ⟨0, ⟨none, 0, rfl, Nat.le_refl _, by unfold maxLen; omega, fun hp => absurd hp (by omega)⟩, fun hp => absurd hp (by omega)⟩, Below.refl _ _⟩
  | some ad =>
    obtain ⟨i0, hi, hz0, hz1, hz2⟩ := info_parts info23
    have HIn := Lib.hid hi; have HZ0 := Lib.hid hz0; have HZ1 := Lib.hid hz1; have HZ2 := Lib.hid hz2
    have HS := Lib.hid hs
    have HV := Lib.hid hV
    clear hi hz0 hz1 hz2 hs hV
    have hk : ∀ w : World, (binOp .eql 22 (.slice (some ad) n c) (.slice none 0 0)).run Try.prog w = .ok (.bool false) w := fun w => Lib.run_eql_slice_nil w _ _ (some ad) n c 0 0 Try.underlying22
    go_enter Try.func24, Try.ntmps24
    have hown : ((w.alloc (.cells #[] 23)).ownsRow w.heap.size 23 1 (.slice (some ⟨w.heap.size, 0, none⟩) 0 0) 0 []) := ⟨rfl, .inr ⟨w.heap.size, 0, #[], rfl, Nat.le_refl _, heap_alloc_new _ _, Nat.le_refl _, by unfold maxLen; omega, rfl, rfl⟩⟩
    go_wp2_with (at_builtin; refine wpList_append_own _ rfl _ _ 22 rfl w.heap.size 23 i0 (.int .u32 0) 1 4 Try.underlying22 HIn.out HZ0.out HZ1.out HZ2.out rfl (by decide) _ 0 [] rfl hown ad n c ((List.range n).map V) rfl (by simp) ?c1 ?c2 ?c3 ?c4 ?c5 ?_)
    case c1 =>
      intro j u h
      have hj : j < n := by
        by_cases e : j < n
        · exact e
        · rw [List.getElem?_eq_none (by simp; omega)] at h; cases h
      obtain ⟨b', off, e, hlt, hc⟩ := HS.out.at (by omega)
      cases e
      rw [Go.WideShapes.add_plain, (Below.refl _ w).alloc (Nat.le_refl _) _ |>.cell hlt, hc j hj]
      simpa [hj] using h
    case c2 => intro u hu; obtain ⟨i, _, rfl⟩ := List.mem_map.1 hu; exact HV.out i
    case c3 => unfold maxLen; omega
    case c4 => omega
    case c5 => simp
    intro v' w1 hown1 hgr _
    have hB : Hid (Below w.heap.size w w1) := ((Below.refl _ w).alloc (Nat.le_refl _) _).grown hgr (by simp) (fun k e => by simp [Value.ownBlock] at e; omega)
    have hSl := Lib.hid (SlAt.of_own (V := V) hown1 (fun i hi => by simp [hi]))
    clear hown1 hgr hown hk
    go_wp2_with fail
    go_ret
    exact ⟨_, rfl, hSl.out, hB.out⟩
set_option maxHeartbeats 2000000 in
theorem clone_bool (a : Option Addr) (n c : Nat) (V : Nat → Value) (w : World) (hV : ∀ i, (V i).oneCell' = true) (hn : n ≤ 1000000) (hs : SliceAt w a n V) :
    Calls Try.prog 28 #[.slice a n c] w fun e w' => ∃ v, e = .returned v ∧ (∃ b, SlAt w' v b 4 n V ∧ (0 < n → w.heap.size ≤ b ∧ b < w'.heap.size)) ∧ Below w.heap.size w w' := by
  cases a with
  | none =>
    have hn0 : n = 0 := hs.elim id (fun h => by obtain ⟨b, off, h, _⟩ := h; cases h)
    subst hn0
    have hk : ∀ w : World, (binOp .eql 54 (.slice none 0 c) (.slice none 0 0)).run Try.prog w = .ok (.bool true) w := fun w => Lib.run_eql_slice_nil w _ _ none 0 c 0 0 Try.underlying54
    go_enter Try.func28, Try.ntmps28
    go_wp2_with fail
    go_ret
    exact ⟨_, rfl, ⟨0, ⟨none, 0, rfl, Nat.le_refl _, by unfold maxLen; omega, fun hp => absurd hp (by omega)⟩, fun hp => absurd hp (by omega)⟩, Below.refl _ _⟩
  | some ad =>
    obtain ⟨i0, hi, hz0, hz1, hz2⟩ := info_parts infoB
    have HIn := Lib.hid hi; have HZ0 := Lib.hid hz0; have HZ1 := Lib.hid hz1; have HZ2 := Lib.hid hz2
    have HS := Lib.hid hs
    have HV := Lib.hid hV
    clear hi hz0 hz1 hz2 hs hV
    have hk : ∀ w : World, (binOp .eql 54 (.slice (some ad) n c) (.slice none 0 0)).run Try.prog w = .ok (.bool false) w := fun w => Lib.run_eql_slice_nil w _ _ (some ad) n c 0 0 Try.underlying54
    go_enter Try.func28, Try.ntmps28
    have hown : ((w.alloc (.cells #[] 4)).ownsRow w.heap.size 4 1 (.slice (some ⟨w.heap.size, 0, none⟩) 0 0) 0 []) := ⟨rfl, .inr ⟨w.heap.size, 0, #[], rfl, Nat.le_refl _, heap_alloc_new _ _, Nat.le_refl _, by unfold maxLen; omega, rfl, rfl⟩⟩
    go_wp2_with (at_builtin; refine wpList_append_own _ rfl _ _ 54 rfl w.heap.size 4 i0 (.bool false) 1 1 Try.underlying54 HIn.out HZ0.out HZ1.out HZ2.out rfl (by decide) _ 0 [] rfl hown ad n c ((List.range n).map V) rfl (by simp) ?c1 ?c2 ?c3 ?c4 ?c5 ?_)
    case c1 =>
      intro j u h
      have hj : j < n := by
        by_cases e : j < n
        · exact e
        · rw [List.getElem?_eq_none (by simp; omega)] at h; cases h
      obtain ⟨b', off, e, hlt, hc⟩ := HS.out.at (by omega)
      cases e
      rw [Go.WideShapes.add_plain, (Below.refl _ w).alloc (Nat.le_refl _) _ |>.cell hlt, hc j hj]
      simpa [hj] using h
    case c2 => intro u hu; obtain ⟨i, _, rfl⟩ := List.mem_map.1 hu; exact HV.out i
    case c3 => unfold maxLen; omega
    case c4 => omega
    case c5 => simp
    intro v' w1 hown1 hgr _
    have hB : Hid (Below w.heap.size w w1) := ((Below.refl _ w).alloc (Nat.le_refl _) _).grown hgr (by simp) (fun k e => by simp [Value.ownBlock] at e; omega)
    have hSl := Lib.hid (SlAt.of_own (V := V) hown1 (fun i hi => by simp [hi]))
    clear hown1 hgr hown hk
    go_wp2_with fail
    go_ret
    exact ⟨_, rfl, hSl.out, hB.out⟩
theorem uV_one (f : Nat → Nat) (i : Nat) : (uV f i).oneCell' = true := rfl
theorem hV_one (f : Nat → Bool) (i : Nat) : (hV f i).oneCell' = true := rfl
theorem ins_any (f : FS) (w : World) (h : FieldAt w f) :
    Calls Try.prog 21 #[.pointer (some ⟨f.g, 0, none⟩)] w fun e w' => ∃ v, e = .returned v ∧ (∃ b, SlAt w' v b 23 f.nI (uV f.ins)) ∧ Below w.heap.size w w' := by
  have c4 : w.cell? ⟨f.g, 4, none⟩ = some f.vi := h.cell 4 _ rfl
  obtain ⟨a, c, hv, h1, h2, h3⟩ := h.ins.slice
  have hn := h.ok.nI
  rw [hv] at c4
  have HS := Lib.hid h3
  clear h3 hv h
  go_enter Try.func21, Try.ntmps21
  go_wp2_with fail
  refine (clone_u32 a f.nI c (uV f.ins) w (uV_one _) (by omega) HS.out).mono ?_
  rintro e w1 ⟨v, rfl, ⟨b, hs, _⟩, hb⟩
  have H1 := Lib.hid hs; have H2 := Lib.hid hb
  clear hs hb
  go_wp2_with fail
  go_ret
  exact ⟨_, rfl, ⟨b, H1.out⟩, H2.out⟩
theorem outs_any (f : FS) (w : World) (h : FieldAt w f) :
    Calls Try.prog 22 #[.pointer (some ⟨f.g, 0, none⟩)] w fun e w' => ∃ v, e = .returned v ∧ (∃ b, SlAt w' v b 23 f.nS (uV f.outs)) ∧ Below w.heap.size w w' := by
  have c4 : w.cell? ⟨f.g, 5, none⟩ = some f.vo := h.cell 5 _ rfl
  obtain ⟨a, c, hv, h1, h2, h3⟩ := h.outs.slice
  have hn := h.ok.nS
  rw [hv] at c4
  have HS := Lib.hid h3
  clear h3 hv h
  go_enter Try.func22, Try.ntmps22
  go_wp2_with fail
  refine (clone_u32 a f.nS c (uV f.outs) w (uV_one _) (by omega) HS.out).mono ?_
  rintro e w1 ⟨v, rfl, ⟨b, hs, _⟩, hb⟩
  have H1 := Lib.hid hs; have H2 := Lib.hid hb
  clear hs hb
  go_wp2_with fail
  go_ret
  exact ⟨_, rfl, ⟨b, H1.out⟩, H2.out⟩
def FS.latch (f : FS) (x : Nat → Nat) : FS := { f with ins := x, has := fun _ => false }
theorem latch_bad (f : FS) (a : Option Addr) (n c : Nat) (w : World) (h : FieldAt w f) (hn : n ≠ f.nI) (hm : n ≤ 9223372036854775807) :
    Calls Try.prog 11 #[.pointer (some ⟨f.g, 0, none⟩), .slice a n c] w fun e w' => e = .returned (.int .i64 2) ∧ w = w' := by
  have c4 : w.cell? ⟨f.g, 4, none⟩ = some f.vi := h.cell 4 _ rfl
  obtain ⟨a', c', hv, h1, h2, h3⟩ := h.ins
  have hnI := h.ok.nI
  rw [hv] at c4
  have t1 : ((n : Int) == (f.nI : Int)) = false := by simp; omega
  have t2 : ((n : Int) != (f.nI : Int)) = true := by simp; omega
  have t3 : (n == f.nI) = false := by simpa using hn
  have t4 : (n != f.nI) = true := by simpa using hn
  clear h3 hv h hn
  go_enter Try.func11, Try.ntmps11
  go_wp2_with fail
  go_ret
  exact ⟨rfl, rfl⟩
theorem latch_ok (f : FS) (a : Option Addr) (c : Nat) (x : Nat → Nat) (w : World) (h : FieldAt w f) (hx : SliceAt w a f.nI (uV x)) (hlt : ∀ i, x i < 4294967296) :
    Calls Try.prog 11 #[.pointer (some ⟨f.g, 0, none⟩), .slice a f.nI c] w fun e w' => e = .returned (.int .i64 0) ∧ FieldAt w' (f.latch x) ∧ Only f.M w w' := by
  have H := Lib.hid h
  have c4 : w.cell? ⟨f.g, 4, none⟩ = some f.vi := h.cell 4 _ rfl
  have c7 : w.cell? ⟨f.g, 7, none⟩ = some f.vh := h.cell 7 _ rfl
  obtain ⟨w1, k1, k2, k3, k4, k5, k6, k7⟩ := copy_row (c := c) h.ins hx (uV_one _)
  have hh1 : SlAt w1 f.vh f.bh 4 f.nS (hV f.has) := h.has.same fun hp => k3 _ fun hq => by have := h.ok.bIS hq hp; omega
  obtain ⟨w2, m1, m2, m3, m4, m5, m6, m7⟩ := clear_has hh1
  obtain ⟨ai, ci, hvi, -⟩ := h.ins
  obtain ⟨ah, ch, hvh, -⟩ := h.has
  have hg := h.ok.g
  have c7' : w1.cell? ⟨f.g, 7, none⟩ = some f.vh := by
    rw [← c7]; simp [World.cell?, k3 f.g (fun hq => by have := h.ok.bi hq; omega)]
  have HF : Hid (FieldAt w2 (f.latch x) ∧ Only f.M w w2) := by
    have two : ∀ i, (0 < f.nI → i ≠ f.bi) → (0 < f.nS → i ≠ f.bh) → w2.heap[i]? = w.heap[i]? := fun i h1 h2 => (m3 i h2).trans (k3 i h1)
    have aI := h.ok.bi
    have aS := h.ok.bS
    have aIS := h.ok.bIS
    refine ⟨⟨(two f.g (fun hq => by have := aI hq; omega) (fun hq => by have := aS hq; omega)).trans h.obj, ⟨h.ok.nI, h.ok.nS, h.ok.rd, h.ok.wr, h.ok.safe, hlt, h.ok.outs, h.ok.put, h.ok.g, h.ok.bi, h.ok.bS, h.ok.bIS⟩,
      h.safe.same (fun hp => two f.bs (fun hq => by have := aIS hq hp; omega) (fun _ => by have := aS hp; omega)), k2.same (fun hq => m3 f.bi (fun hp => by have := aIS hq hp; omega)),
      h.outs.same (fun hp => two f.bo (fun hq => by have := aIS hq hp; omega) (fun _ => by have := aS hp; omega)), h.put.same (fun hp => two f.bp (fun hq => by have := aIS hq hp; omega) (fun _ => by have := aS hp; omega)), m2, by show f.hi ≤ _; rw [m4, k4]; exact h.hi⟩,
      ⟨m5.trans k5, m6.trans k6, m7.trans k7, by omega, fun b hb hM => two b (fun hq e => hM (by have := aI hq; subst e; exact ⟨by omega, by omega⟩)) (fun hq e => hM (by have := aS hq; subst e; exact ⟨by omega, by omega⟩))⟩⟩
  rw [hvi] at c4 k1
  rw [hvh] at c7 c7' m1
  have hnI := h.ok.nI
  clear h hx hh1 k2 k3 m2 m3 hvi hvh
  have K4 := Lib.hid k4; have M4 := Lib.hid m4
  clear k4 k5 k6 k7 m4 m5 m6 m7
  go_enter Try.func11, Try.ntmps11
  go_wp2_with fail
  go_ret
  exact ⟨rfl, HF.out.1, HF.out.2⟩
end Go.Proofs.Ytdelcndaogjngaa
