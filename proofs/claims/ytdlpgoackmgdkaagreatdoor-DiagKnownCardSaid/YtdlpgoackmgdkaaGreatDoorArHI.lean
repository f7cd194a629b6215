/- of: the lines of a frame, the last one first. -/
import Derived.Test.YtdlpgoackmgdkaaGreatDoorArAC
import Derived.Test.YtdlpgoackmgdkaaGreatDoorSeqY
import Derived.Test.YtdlpgoackmgdkaaGreatDoorTakIn
import Derived.Sort.LoopGhostIn
import Derived.Outline
import Derived.Sort.CutIn
namespace Go.Proofs.YtdlpgoackmgdkaaGreatDoor
open Go.RowKit Go.Shelf
set_option linter.unusedVariables false
set_option linter.unusedSimpArgs false
attribute [local go_sem] Oper.semAt_some
/-- The lines of a frame from a place on, the last one first. -/
def revF (ls : List PL) (f k : Nat) : List PL := ((ls.drop k).filter fun x => decide (x.fr = f)).reverse
theorem revF_end {ls : List PL} {f k : Nat} (h : ls.length ≤ k) : revF ls f k = [] := by unfold revF; rw [List.drop_of_length_le h]; rfl
theorem revF_step {ls : List PL} {f k : Nat} (h : k < ls.length) : revF ls f k = revF ls f (k + 1) ++ (if (ls.getD k pl0).fr = f then [ls.getD k pl0] else []) := by
  unfold revF
  rw [List.drop_eq_getElem_cons h, show ls.getD k pl0 = ls[k] by rw [List.getD_eq_getElem?_getD, List.getElem?_eq_getElem h]; rfl]
  by_cases e : ls[k].fr = f
  · rw [List.filter_cons_of_pos (by simpa using e), if_pos e, List.reverse_cons]
  · rw [List.filter_cons_of_neg (by simpa using e), if_neg e, List.append_nil]
theorem revF_pre (ls : List PL) (f k : Nat) : ∃ r, revF ls f 0 = revF ls f k ++ r := by
  refine ⟨((ls.take k).filter fun x => decide (x.fr = f)).reverse, ?_⟩
  unfold revF
  rw [← List.reverse_append, ← List.filter_append, List.take_append_drop, List.drop_zero]
theorem revF_at {ls : List PL} {f k : Nat} (h : k < ls.length) (e : (ls.getD k pl0).fr = f) : (revF ls f (k + 1)).length < (revF ls f 0).length ∧ (revF ls f 0).getD (revF ls f (k + 1)).length pl0 = ls.getD k pl0 := by
  obtain ⟨r, hr⟩ := revF_pre ls f k
  rw [revF_step h, if_pos e] at hr
  rw [hr, List.getD_eq_getElem?_getD]
  simp
def encL (ls : List PL) (f x : Nat) : Array Value := #[.agg #[.int .u32 (((revF ls f 0).getD x pl0).fr : Int), .int .i64 ((revF ls f 0).getD x pl0).rt]]
/-- What the iterator reads. -/
structure LnK (ls : List PL) (a : Option Addr) (n c base f pb fb : Nat) (port : Int) (V : World) : Prop where
  pc : V.heap[pb]? = some (.cells #[.int .u32 (base : Int), .int .i64 port, .slice a n c] 25 (0, 0))
  fc : V.heap[fb]? = some (.cells #[.int .u32 (f : Int)] 22 (0, 0))
  ln : PlsAt V a ls
def KbL (a : Option Addr) (n pb fb b : Nat) : Prop := b = pb ∨ b = fb ∨ (0 < n ∧ ∃ o, a = some ⟨b, o, none⟩)
theorem pls_keep {Fb : Nat → Prop} {A B : World} {a : Option Addr} {ls : List PL} (h : PlsAt A a ls) (hk : KeepF Fb A B) (hF : ∀ b o, 0 < ls.length → a = some ⟨b, o, none⟩ → Fb b) (hs : A.heap.size ≤ B.heap.size) : PlsAt B a ls := by
  rcases h with h | ⟨b, off, rfl, hlt, hc⟩
  · exact .inl h
  · by_cases h0 : ls.length = 0
    · exact .inl h0
    · refine .inr ⟨b, off, rfl, Nat.lt_of_lt_of_le hlt hs, fun i hi j hj => ?_⟩
      have e : B.heap[b]? = A.heap[b]? := by
        rw [Array.getElem?_eq_getElem hlt]
        exact hk b _ (hF b off (by omega) rfl) (Array.getElem?_eq_getElem hlt)
      exact (World.cell?_of_block e).trans (hc i hi j hj)
theorem LnK.keep {Fb : Nat → Prop} {A B : World} {ls : List PL} {a : Option Addr} {n c base f pb fb : Nat} {port : Int} (h : LnK ls a n c base f pb fb port A) (hn : n = ls.length) (hk : KeepF Fb A B) (hF : ∀ b, KbL a n pb fb b → Fb b) (hs : A.heap.size ≤ B.heap.size) : LnK ls a n c base f pb fb port B :=
  ⟨hk _ _ (hF _ (.inl rfl)) h.pc, hk _ _ (hF _ (.inr (.inl rfl))) h.fc, pls_keep h.ln hk (fun b o h0 e => hF b (.inr (.inr ⟨by omega, o, e⟩))) hs⟩
theorem LnK.below {A B : World} {ls : List PL} {a : Option Addr} {n c base f pb fb : Nat} {port : Int} (h : LnK ls a n c base f pb fb port A) (hb : Below A.heap.size A B) : LnK ls a n c base f pb fb port B :=
  ⟨kept h.pc hb, kept h.fc hb, h.ln.below hb⟩
theorem FbOk.extend {Kb Fb : Nat → Prop} {W A B : World} (h : FbOk Kb Fb W A) (hs : W.heap.size ≤ A.heap.size) (hb : A.heap.size ≤ B.heap.size) : FbOk Kb (extF Fb A B) W B := by
  rintro b (hb' | hb')
  · exact ⟨Nat.lt_of_lt_of_le (h b hb').1 hb, (h b hb').2⟩
  · exact ⟨hb'.2, .inr (Nat.le_trans hs hb'.1)⟩
structure TL (ls : List PL) (a : Option Addr) (n c base f pb fb : Nat) (port : Int) (W : World) (Fb : Nat → Prop) (V : World) : Prop where
  ok : FbOk (KbL a n pb fb) Fb W V
  sz : W.heap.size ≤ V.heap.size
  kb : ∀ b, KbL a n pb fb b → Fb b
  ln : LnK ls a n c base f pb fb port V
theorem TL.below {ls : List PL} {a : Option Addr} {n c base f pb fb : Nat} {port : Int} {W : World} {Fb : Nat → Prop} {A B : World} (h : TL ls a n c base f pb fb port W Fb A) (hb : Below A.heap.size A B) : TL ls a n c base f pb fb port W (extF Fb A B) B :=
  ⟨h.ok.extend h.sz hb.size, Nat.le_trans h.sz hb.size, fun b hk => .inl (h.kb b hk), h.ln.below hb⟩
theorem TL.keep {ls : List PL} {a : Option Addr} {n c base f pb fb : Nat} {port : Int} {W : World} {Fb : Nat → Prop} {A B : World} (h : TL ls a n c base f pb fb port W Fb A) (hn : n = ls.length) (hk : KeepF Fb A B) (hs : A.heap.size ≤ B.heap.size) : TL ls a n c base f pb fb port W Fb B :=
  ⟨fun b hb => ⟨Nat.lt_of_lt_of_le (h.ok b hb).1 hs, (h.ok b hb).2⟩, Nat.le_trans h.sz hs, h.kb, h.ln.keep hn hk h.kb hs⟩
set_option maxRecDepth 100000 in
set_option maxHeartbeats 4000000 in
theorem of1_in (m : Nat) (ls : List PL) (a : Option Addr) (n c base f pb fb : Nat) (port : Int) (w : World) (hn : n = ls.length) (hm : n ≤ 1000000) (h : LnK ls a n c base f pb fb port w) :
    SeqC Fence.wide m Tryz.prog 83 #[.pointer (some ⟨pb, 0, none⟩), .pointer (some ⟨fb, 0, none⟩)] (encL ls f) (KbL a n pb fb) (revF ls f 0).length (LnK ls a n c base f pb fb port) w := by
  intro l J Jx W hW hJ hJx hZ h0 hY
  have HK := Lib.hid (h.below hW)
  have P0 : Hid (TL ls a n c base f pb fb port W (KbL a n pb fb) W) := ⟨fun b hb => ⟨by
    rcases hb with rfl | rfl | ⟨h1, o, rfl⟩
    · exact heap_lt HK.out.pc
    · exact heap_lt HK.out.fc
    · rcases HK.out.ln with h2 | ⟨b2, off, e, hlt, _⟩
      · omega
      · cases e; exact hlt, .inl hb⟩, Nat.le_refl _, fun b hb => hb, HK.out⟩
  have H0 : Hid (J (revF ls f n).length (KbL a n pb fb) W) := by show J _ _ _; rw [revF_end (by omega)]; exact h0
  have HJ := Lib.hid hJ
  have HY := Lib.hid hY
  have HZ := Lib.hid hZ
  have HN := Lib.hid hn
  have l2 := cell_row (j := 2) HK.out.pc rfl
  have ll := heap_lt HK.out.pc
  clear h hW h0 hJ hY hJx hZ hn
  refine callsIn_of_wp Tryz.func83 rfl trivial ?_ rfl
  simp only [Tryz.ntmps83, List.size_toArray, List.length_cons, List.length_nil, Nat.reduceAdd, Nat.reduceSub, Array.replicate_succ, Array.replicate_zero, List.push_toArray, List.append_toArray, List.nil_append, List.cons_append]
  gi_wp2_with (fail)
  gi_loopw [4] (fun i wr => ∃ k : Nat, k ≤ n ∧ i = .int .i64 ((k : Int) - 1) ∧ ∃ Fb, J (revF ls f k).length Fb wr ∧ TL ls a n c base f pb fb port W Fb wr) (fun i _ => (intOf i + 1).toNat)
  case atStart => exact ⟨n, Nat.le_refl _, by go_num, _, H0.out, P0.out⟩
  case round =>
    clear H0 P0 HK l2 ll
    obtain ⟨k, hk, rfl, Fb, hj, ht⟩ := hrel
    have J4 := Lib.hid hj; have T4 := Lib.hid ht
    clear hj ht
    cases k with
    | zero =>
      have t1 : decide ((0 : Int) ≤ (((0 : Nat) : Int) - 1)) = false := by decide
      gi_wp2_with (fail)
      go_end0
      exact ⟨⟨_, rfl⟩, .inl ⟨_, J4.out⟩⟩
    | succ q =>
    rw [show (((q + 1 : Nat) : Int) - 1) = (q : Int) by omega]
    have t1 : decide ((0 : Int) ≤ (q : Int)) = true := decide_eq_true (by omega)
    have i1 : (q : Int) < (n : Int) := by omega
    have hql : q < ls.length := by have := HN.out; omega
    have HST := Lib.hid (revF_step (f := f) hql)
    have HAT := Lib.hid (fun e => revF_at (f := f) hql e)
    obtain ⟨gb, off, rfl, hb, hc⟩ := T4.out.ln.ln.at (by omega)
    have a0 : wr.cell? ⟨gb, off + q * 2, none⟩ = some (.int .u32 ((ls.getD q pl0).fr : Int)) := hc q hql 0 (by omega)
    have a1 : wr.cell? ⟨gb, off + q * 2 + 1, none⟩ = some (.int .i64 (ls.getD q pl0).rt) := hc q hql 1 (by omega)
    have p2 := cell_row (j := 2) T4.out.ln.pc rfl
    have f0 := cell_row (j := 0) T4.out.ln.fc rfl
    have lp := heap_lt T4.out.ln.pc
    have lf := heap_lt T4.out.ln.fc
    have HCC : Hid (∀ V, LnK ls (some ⟨gb, off, none⟩) n c base f pb fb port V → V.cell? ⟨gb, off + q * 2, none⟩ = some (.int .u32 ((ls.getD q pl0).fr : Int)) ∧ V.cell? ⟨gb, off + q * 2 + 1, none⟩ = some (.int .i64 (ls.getD q pl0).rt)) := fun V hV => by
      obtain ⟨g2, o2, e, _, h2⟩ := hV.ln.at (by omega)
      cases e
      exact ⟨h2 q hql 0 (by omega), h2 q hql 1 (by omega)⟩
    clear hc
    obtain ⟨x, hx⟩ : ∃ x, x = ls.getD q pl0 := ⟨_, rfl⟩
    rw [← hx] at a0 a1 HST HAT HCC
    clear hx
    obtain ⟨fr, rt⟩ := x
    dsimp only at a0 a1 HST HAT HCC
    gi_upto_region 3 with (fail)
    have KS : Hid (∀ W : World, (LnK ls (some ⟨gb, off, none⟩) n c base f pb fb port W ∧ W.cell? ⟨pb, 2, none⟩ = some (.slice (some ⟨gb, off, none⟩) n c) ∧ W.cell? ⟨fb, 0, none⟩ = some (.int .u32 (f : Int)) ∧ W.cell? ⟨gb, off + q * 2, none⟩ = some (.int .u32 (fr : Int)) ∧ W.cell? ⟨gb, off + q * 2 + 1, none⟩ = some (.int .i64 rt)) → (W.cell? ⟨pb, 2, none⟩ = some (.slice (some ⟨gb, off, none⟩) n c) ∧ W.cell? ⟨fb, 0, none⟩ = some (.int .u32 (f : Int)) ∧ W.cell? ⟨gb, off + q * 2, none⟩ = some (.int .u32 (fr : Int)) ∧ W.cell? ⟨gb, off + q * 2 + 1, none⟩ = some (.int .i64 rt))) := fun W h => h.2
    have kb : Hid (∀ W : World, LnK ls (some ⟨gb, off, none⟩) n c base f pb fb port W → (LnK ls (some ⟨gb, off, none⟩) n c base f pb fb port W ∧ W.cell? ⟨pb, 2, none⟩ = some (.slice (some ⟨gb, off, none⟩) n c) ∧ W.cell? ⟨fb, 0, none⟩ = some (.int .u32 (f : Int)) ∧ W.cell? ⟨gb, off + q * 2, none⟩ = some (.int .u32 (fr : Int)) ∧ W.cell? ⟨gb, off + q * 2 + 1, none⟩ = some (.int .i64 rt))) := fun W h => ⟨h, cell_row (j := 2) h.pc rfl, cell_row (j := 0) h.fc rfl, (HCC.out W h).1, (HCC.out W h).2⟩
    clear a0 a1 p2 f0 lp lf
    have J5 := Lib.hid (HJ.out _ Fb wr wr.drew J4.out (Below.drew (Below.refl _ _)))
    have T5 := Lib.hid (T4.out.below (Below.drew (Below.refl _ _)))
    refine wpIn_region_S (fun W => LnK ls (some ⟨gb, off, none⟩) n c base f pb fb port W ∧ W.cell? ⟨pb, 2, none⟩ = some (.slice (some ⟨gb, off, none⟩) n c) ∧ W.cell? ⟨fb, 0, none⟩ = some (.int .u32 (f : Int)) ∧ W.cell? ⟨gb, off + q * 2, none⟩ = some (.int .u32 (fr : Int)) ∧ W.cell? ⟨gb, off + q * 2 + 1, none⟩ = some (.int .i64 rt)) (by kernel_rfl) ?_
    change wpAnyS _ _ _ _ _ _ _ _ _ _ (World.drew _)
    have S1 := kb.out wr.drew T5.out.ln
    clear J4 T4
    generalize extF Fb wr wr.drew = F5 at *
    generalize wr.drew = w5 at *
    refine wpAnyS_take (i := 0) (v := ?_) rfl rfl (by kernel_rfl) (by kernel_rfl) (by kernel_rfl) (fun _ _ _ h => h) (Or.inl ⟨by kernel_rfl, ?_⟩) (fun _ => rfl) (by assumption) ?_
    rotate_left
    · intro V hV; clear hV; go_simp; try (with_reducible rfl)
    try simp only [Act.put, List.getElem_toArray, List.getElem_cons_succ, List.getElem_cons_zero, List.setIfInBounds_toArray, List.set_cons_zero, List.set_cons_succ]
    refine wpAnyS_take (i := 1) (v := ?_) rfl rfl (by kernel_rfl) (by kernel_rfl) (by kernel_rfl) (fun _ _ _ h => h) (Or.inl ⟨by kernel_rfl, ?_⟩) (fun _ => rfl) (by assumption) ?_
    rotate_left
    · intro V hV; have k := KS.out V hV; clear hV; go_simp; try (with_reducible rfl)
    try simp only [Act.put, List.getElem_toArray, List.getElem_cons_succ, List.getElem_cons_zero, List.setIfInBounds_toArray, List.set_cons_zero, List.set_cons_succ]
    refine wpAnyS_take (i := 2) (v := ?_) rfl rfl (by kernel_rfl) (by kernel_rfl) (by kernel_rfl) (fun _ _ _ h => h) (Or.inl ⟨by kernel_rfl, ?_⟩) (fun _ => rfl) (by assumption) ?_
    rotate_left
    · intro V hV; clear hV; go_simp; try (with_reducible rfl)
    try simp only [Act.put, List.getElem_toArray, List.getElem_cons_succ, List.getElem_cons_zero, List.setIfInBounds_toArray, List.set_cons_zero, List.set_cons_succ]
    refine wpAnyS_take (i := 3) (v := ?_) rfl rfl (by kernel_rfl) (by kernel_rfl) (by kernel_rfl) (fun _ _ _ h => h) (Or.inl ⟨by kernel_rfl, ?_⟩) (fun _ => rfl) (by assumption) ?_
    rotate_left
    · intro V hV; clear hV; go_simp; try (with_reducible rfl)
    try simp only [Act.put, List.getElem_toArray, List.getElem_cons_succ, List.getElem_cons_zero, List.setIfInBounds_toArray, List.set_cons_zero, List.set_cons_succ]
    refine wpAnyS_take (i := 4) (v := ?_) rfl rfl (by kernel_rfl) (by kernel_rfl) (by kernel_rfl) (fun _ _ _ h => h) (Or.inl ⟨by kernel_rfl, ?_⟩) (fun _ => rfl) (by assumption) ?_
    rotate_left
    · intro V hV; clear hV; go_simp; try (with_reducible rfl)
    try simp only [Act.put, List.getElem_toArray, List.getElem_cons_succ, List.getElem_cons_zero, List.setIfInBounds_toArray, List.set_cons_zero, List.set_cons_succ]
    refine wpAnyS_take (i := 5) (v := ?_) rfl rfl (by kernel_rfl) (by kernel_rfl) (by kernel_rfl) (fun _ _ _ h => h) (Or.inl ⟨by kernel_rfl, ?_⟩) (fun _ => rfl) (by assumption) ?_
    rotate_left
    · intro V hV; have k := KS.out V hV; clear hV; go_simp; try (with_reducible rfl)
    try simp only [Act.put, List.getElem_toArray, List.getElem_cons_succ, List.getElem_cons_zero, List.setIfInBounds_toArray, List.set_cons_zero, List.set_cons_succ]
    refine wpAnyS_take (i := 6) (v := ?_) rfl rfl (by kernel_rfl) (by kernel_rfl) (by kernel_rfl) (fun _ _ _ h => h) (Or.inl ⟨by kernel_rfl, ?_⟩) (fun _ => rfl) (by assumption) ?_
    rotate_left
    · intro V hV; have k := KS.out V hV; clear hV; go_simp; try (with_reducible rfl)
    try simp only [Act.put, List.getElem_toArray, List.getElem_cons_succ, List.getElem_cons_zero, List.setIfInBounds_toArray, List.set_cons_zero, List.set_cons_succ]
    by_cases e : fr = f
    case neg =>
      have t2 : ((fr : Int) == (f : Int)) = false := beq_eq_false_iff_ne.2 (by omega)
      have hs : Hid (revF ls f q = revF ls f (q + 1)) := by show _ = _; rw [HST.out, if_neg e, List.append_nil]
      clear e
      refine wpAnyS_take (i := 7) (v := ?_) rfl rfl (by kernel_rfl) (by kernel_rfl) (by kernel_rfl) (fun _ _ _ h => h) (Or.inl ⟨by kernel_rfl, ?_⟩) (fun _ => rfl) (by assumption) ?_
      rotate_left
      · intro V hV; clear hV; go_simp; try (with_reducible rfl)
      try simp only [Act.put, List.getElem_toArray, List.getElem_cons_succ, List.getElem_cons_zero, List.setIfInBounds_toArray, List.set_cons_zero, List.set_cons_succ]
      refine wpAnyS_take (i := 8) (v := ?_) rfl rfl (by kernel_rfl) (by kernel_rfl) (by kernel_rfl) (fun _ _ _ h => h) (Or.inl ⟨by kernel_rfl, ?_⟩) (fun _ => rfl) (by assumption) ?_
      rotate_left
      · intro V hV; clear hV; go_simp; try (with_reducible rfl)
      try simp only [Act.put, List.getElem_toArray, List.getElem_cons_succ, List.getElem_cons_zero, List.setIfInBounds_toArray, List.set_cons_zero, List.set_cons_succ]
      refine wpAnyS_take (i := 9) (v := undef) rfl rfl (by kernel_rfl) (by kernel_rfl) (by kernel_rfl) (fun _ _ _ h => h) (Or.inr ⟨by kernel_rfl, rfl⟩) (fun _ => rfl) (by assumption) ?_
      try simp only [Act.put, List.getElem_toArray, List.getElem_cons_succ, List.getElem_cons_zero, List.setIfInBounds_toArray, List.set_cons_zero, List.set_cons_succ]
      refine wpAnyS_take (i := 10) (v := undef) rfl rfl (by kernel_rfl) (by kernel_rfl) (by kernel_rfl) (fun _ _ _ h => h) (Or.inr ⟨by kernel_rfl, rfl⟩) (fun _ => rfl) (by assumption) ?_
      try simp only [Act.put, List.getElem_toArray, List.getElem_cons_succ, List.getElem_cons_zero, List.setIfInBounds_toArray, List.set_cons_zero, List.set_cons_succ]
      refine wpAnyS_take (i := 11) (v := undef) rfl rfl (by kernel_rfl) (by kernel_rfl) (by kernel_rfl) (fun _ _ _ h => h) (Or.inr ⟨by kernel_rfl, rfl⟩) (fun _ => rfl) (by assumption) ?_
      try simp only [Act.put, List.getElem_toArray, List.getElem_cons_succ, List.getElem_cons_zero, List.setIfInBounds_toArray, List.set_cons_zero, List.set_cons_succ]
      refine wpAnyS_take (i := 12) (v := undef) rfl rfl (by kernel_rfl) (by kernel_rfl) (by kernel_rfl) (fun _ _ _ h => h) (Or.inr ⟨by kernel_rfl, rfl⟩) (fun _ => rfl) (by assumption) ?_
      try simp only [Act.put, List.getElem_toArray, List.getElem_cons_succ, List.getElem_cons_zero, List.setIfInBounds_toArray, List.set_cons_zero, List.set_cons_succ]
      refine wpAnyS_take (i := 13) (v := undef) rfl rfl (by kernel_rfl) (by kernel_rfl) (by kernel_rfl) (fun _ _ _ h => h) (Or.inr ⟨by kernel_rfl, rfl⟩) (fun _ => rfl) (by assumption) ?_
      try simp only [Act.put, List.getElem_toArray, List.getElem_cons_succ, List.getElem_cons_zero, List.setIfInBounds_toArray, List.set_cons_zero, List.set_cons_succ]
      refine wpAnyS_take (i := 14) (v := undef) rfl rfl (by kernel_rfl) (by kernel_rfl) (by kernel_rfl) (fun _ _ _ h => h) (Or.inr ⟨by kernel_rfl, rfl⟩) (fun _ => rfl) (by assumption) ?_
      try simp only [Act.put, List.getElem_toArray, List.getElem_cons_succ, List.getElem_cons_zero, List.setIfInBounds_toArray, List.set_cons_zero, List.set_cons_succ]
      refine wpAnyS_take (i := 15) (v := undef) rfl rfl (by kernel_rfl) (by kernel_rfl) (by kernel_rfl) (fun _ _ _ h => h) (Or.inr ⟨by kernel_rfl, rfl⟩) (fun _ => rfl) (by assumption) ?_
      try simp only [Act.put, List.getElem_toArray, List.getElem_cons_succ, List.getElem_cons_zero, List.setIfInBounds_toArray, List.set_cons_zero, List.set_cons_succ]
      refine wpAnyS_take (i := 16) (v := undef) rfl rfl (by kernel_rfl) (by kernel_rfl) (by kernel_rfl) (fun _ _ _ h => h) (Or.inr ⟨by kernel_rfl, rfl⟩) (fun _ => rfl) (by assumption) ?_
      try simp only [Act.put, List.getElem_toArray, List.getElem_cons_succ, List.getElem_cons_zero, List.setIfInBounds_toArray, List.set_cons_zero, List.set_cons_succ]
      refine wpAnyS_take (i := 17) (v := ?_) rfl rfl (by kernel_rfl) (by kernel_rfl) (by kernel_rfl) (fun _ _ _ h => h) (Or.inl ⟨by kernel_rfl, ?_⟩) (fun _ => rfl) (by assumption) ?_
      rotate_left
      · intro V hV; clear hV; go_simp; try (with_reducible rfl)
      try simp only [Act.put, List.getElem_toArray, List.getElem_cons_succ, List.getElem_cons_zero, List.setIfInBounds_toArray, List.set_cons_zero, List.set_cons_succ]
      refine wpAnyS_done (by kernel_rfl) ?_ _
      clear S1
      gi_wp2_with (fail)
      go_roundw
      case rel => exact ⟨q, by omega, by go_num, _, by rw [hs.out]; exact J5.out, T5.out⟩
      case measure => simp [intOf]
    have t2 : ((fr : Int) == (f : Int)) = true := beq_iff_eq.2 (by omega)
    have hs : Hid ((revF ls f q).length = (revF ls f (q + 1)).length + 1) := by show _ = _; rw [HST.out, if_pos e]; simp
    have HAT2 := Lib.hid (HAT.out e)
    have HEN : Hid (encL ls f (revF ls f (q + 1)).length = #[.agg #[.int .u32 (fr : Int), .int .i64 rt]]) := by
      show _ = _
      unfold encL
      rw [HAT2.out.2]
    clear e HAT HST
    refine wpAnyS_take (i := 7) (v := ?_) rfl rfl (by kernel_rfl) (by kernel_rfl) (by kernel_rfl) (fun _ _ _ h => h) (Or.inl ⟨by kernel_rfl, ?_⟩) (fun _ => rfl) (by assumption) ?_
    rotate_left
    · intro V hV; clear hV; go_simp; try (with_reducible rfl)
    try simp only [Act.put, List.getElem_toArray, List.getElem_cons_succ, List.getElem_cons_zero, List.setIfInBounds_toArray, List.set_cons_zero, List.set_cons_succ]
    refine wpAnyS_take (i := 8) (v := ?_) rfl rfl (by kernel_rfl) (by kernel_rfl) (by kernel_rfl) (fun _ _ _ h => h) (Or.inl ⟨by kernel_rfl, ?_⟩) (fun _ => rfl) (by assumption) ?_
    rotate_left
    · intro V hV; clear hV; go_simp; try (with_reducible rfl)
    try simp only [Act.put, List.getElem_toArray, List.getElem_cons_succ, List.getElem_cons_zero, List.setIfInBounds_toArray, List.set_cons_zero, List.set_cons_succ]
    refine wpAnyS_take (i := 9) (v := ?_) rfl rfl (by kernel_rfl) (by kernel_rfl) (by kernel_rfl) (fun _ _ _ h => h) (Or.inl ⟨by kernel_rfl, ?_⟩) (fun _ => rfl) (by assumption) ?_
    rotate_left
    · intro V hV; clear hV; go_simp; try (with_reducible rfl)
    try simp only [Act.put, List.getElem_toArray, List.getElem_cons_succ, List.getElem_cons_zero, List.setIfInBounds_toArray, List.set_cons_zero, List.set_cons_succ]
    refine wpAnyS_take (i := 10) (v := ?_) rfl rfl (by kernel_rfl) (by kernel_rfl) (by kernel_rfl) (fun _ _ _ h => h) (Or.inl ⟨by kernel_rfl, ?_⟩) (fun _ => rfl) (by assumption) ?_
    rotate_left
    · intro V hV; clear hV; go_simp; try (with_reducible rfl)
    try simp only [Act.put, List.getElem_toArray, List.getElem_cons_succ, List.getElem_cons_zero, List.setIfInBounds_toArray, List.set_cons_zero, List.set_cons_succ]
    refine wpAnyS_take (i := 11) (v := ?_) rfl rfl (by kernel_rfl) (by kernel_rfl) (by kernel_rfl) (fun _ _ _ h => h) (Or.inl ⟨by kernel_rfl, ?_⟩) (fun _ => rfl) (by assumption) ?_
    rotate_left
    · intro V hV; have k := KS.out V hV; clear hV; go_simp; try (with_reducible rfl)
    try simp only [Act.put, List.getElem_toArray, List.getElem_cons_succ, List.getElem_cons_zero, List.setIfInBounds_toArray, List.set_cons_zero, List.set_cons_succ]
    refine wpAnyS_take (i := 12) (v := ?_) rfl rfl (by kernel_rfl) (by kernel_rfl) (by kernel_rfl) (fun _ _ _ h => h) (Or.inl ⟨by kernel_rfl, ?_⟩) (fun _ => rfl) (by assumption) ?_
    rotate_left
    · intro V hV; clear hV; go_simp; try (with_reducible rfl)
    try simp only [Act.put, List.getElem_toArray, List.getElem_cons_succ, List.getElem_cons_zero, List.setIfInBounds_toArray, List.set_cons_zero, List.set_cons_succ]
    refine wpAnyS_take (i := 13) (v := ?_) rfl rfl (by kernel_rfl) (by kernel_rfl) (by kernel_rfl) (fun _ _ _ h => h) (Or.inl ⟨by kernel_rfl, ?_⟩) (fun _ => rfl) (by assumption) ?_
    rotate_left
    · intro V hV; clear hV; go_simp; try (with_reducible rfl)
    try simp only [Act.put, List.getElem_toArray, List.getElem_cons_succ, List.getElem_cons_zero, List.setIfInBounds_toArray, List.set_cons_zero, List.set_cons_succ]
    refine wpAnyS_take (i := 14) (v := ?_) rfl rfl (by kernel_rfl) (by kernel_rfl) (by kernel_rfl) (fun _ _ _ h => h) (Or.inl ⟨by kernel_rfl, ?_⟩) (fun _ => rfl) (by assumption) ?_
    rotate_left
    · intro V hV; have k := KS.out V hV; clear hV; go_simp; try (with_reducible rfl)
    try simp only [Act.put, List.getElem_toArray, List.getElem_cons_succ, List.getElem_cons_zero, List.setIfInBounds_toArray, List.set_cons_zero, List.set_cons_succ]
    obtain ⟨fn, tmps, assign, body, hy, hR⟩ := HY.out _ F5 w5 HAT2.out.1 T5.out.ok J5.out
    rw [HEN.out] at hy
    refine wpAnyS_one (i := 15) (by kernel_rfl) rfl (fun K hK => ?_)
    rw [if_pos (by kernel_rfl)]
    unfold Oper.wpIn
    go_simp
    refine ⟨fun h => (by cases h), hR.mono ?_⟩
    clear hy hR
    rintro e w8 (⟨rfl, q1, q2, q3⟩ | ⟨rfl, q1⟩)
    · have J8 := Lib.hid q1
      have T8 := Lib.hid (T5.out.keep HN.out q2 q3)
      have S8 := kb.out w8 T8.out.ln
      clear q1 q2 q3 S1
      refine hK _ _ S8 ?_
      clear hK K
      try simp only [Act.put, List.getElem_toArray, List.getElem_cons_succ, List.getElem_cons_zero, List.setIfInBounds_toArray, List.set_cons_zero, List.set_cons_succ]
      refine wpAnyS_take (i := 16) (v := ?_) rfl rfl (by kernel_rfl) (by kernel_rfl) (by kernel_rfl) (fun _ _ _ h => h) (Or.inl ⟨by kernel_rfl, ?_⟩) (fun _ => rfl) (by assumption) ?_
      rotate_left
      · intro V hV; clear hV; go_simp; try (with_reducible rfl)
      try simp only [Act.put, List.getElem_toArray, List.getElem_cons_succ, List.getElem_cons_zero, List.setIfInBounds_toArray, List.set_cons_zero, List.set_cons_succ]
      refine wpAnyS_take (i := 17) (v := ?_) rfl rfl (by kernel_rfl) (by kernel_rfl) (by kernel_rfl) (fun _ _ _ h => h) (Or.inl ⟨by kernel_rfl, ?_⟩) (fun _ => rfl) (by assumption) ?_
      rotate_left
      · intro V hV; clear hV; go_simp; try (with_reducible rfl)
      try simp only [Act.put, List.getElem_toArray, List.getElem_cons_succ, List.getElem_cons_zero, List.setIfInBounds_toArray, List.set_cons_zero, List.set_cons_succ]
      refine wpAnyS_done (by kernel_rfl) ?_ _
      clear S8
      gi_wp2_with (fail)
      go_roundw
      case rel => exact ⟨q, by omega, by go_num, _, by rw [hs.out]; exact J8.out, T8.out⟩
      case measure => simp [intOf]
    · have JX := Lib.hid q1
      have S8 := kb.out w8 (HZ.out _ _ _ q1)
      clear q1 S1
      refine hK _ _ S8 ?_
      clear hK K
      try simp only [Act.put, List.getElem_toArray, List.getElem_cons_succ, List.getElem_cons_zero, List.setIfInBounds_toArray, List.set_cons_zero, List.set_cons_succ]
      refine wpAnyS_take (i := 16) (v := ?_) rfl rfl (by kernel_rfl) (by kernel_rfl) (by kernel_rfl) (fun _ _ _ h => h) (Or.inl ⟨by kernel_rfl, ?_⟩) (fun _ => rfl) (by assumption) ?_
      rotate_left
      · intro V hV; clear hV; go_simp; try (with_reducible rfl)
      try simp only [Act.put, List.getElem_toArray, List.getElem_cons_succ, List.getElem_cons_zero, List.setIfInBounds_toArray, List.set_cons_zero, List.set_cons_succ]
      refine wpAnyS_take (i := 17) (v := ?_) rfl rfl (by kernel_rfl) (by kernel_rfl) (by kernel_rfl) (fun _ _ _ h => h) (Or.inl ⟨by kernel_rfl, ?_⟩) (fun _ => rfl) (by assumption) ?_
      rotate_left
      · intro V hV; clear hV; go_simp; try (with_reducible rfl)
      try simp only [Act.put, List.getElem_toArray, List.getElem_cons_succ, List.getElem_cons_zero, List.setIfInBounds_toArray, List.set_cons_zero, List.set_cons_succ]
      refine wpAnyS_done (by kernel_rfl) ?_ _
      clear S8
      gi_wp2_with (fail)
      refine bodyPost_ret (results_none rfl _ _ _) rfl ?_
      exact ⟨⟨_, rfl⟩, .inr ⟨_, _, Nat.succ_pos _, HAT2.out.1, JX.out⟩⟩
end Go.Proofs.YtdlpgoackmgdkaaGreatDoor
/- of and Due: what is due in a frame. -/
namespace Go.Proofs.YtdlpgoackmgdkaaGreatDoor
open Go.RowKit Go.Shelf
set_option linter.unusedVariables false
set_option linter.unusedSimpArgs false
attribute [local go_sem] Oper.semAt_some
theorem pof_any (a : Option Addr) (n c base f : Nat) (port : Int) (w : World) :
    Calls Tryz.prog 53 #[.agg #[.int .u32 (base : Int), .int .i64 port, .slice a n c], .int .u32 (f : Int)] w fun e w' => e = .returned (.func (.func 83) #[] #[.pointer (some ⟨w.heap.size, 0, none⟩), .pointer (some ⟨w.heap.size + 1, 0, none⟩)]) ∧ w' = (w.alloc (.cells #[.int .u32 (base : Int), .int .i64 port, .slice a n c] 25)).alloc (.cells #[.int .u32 (f : Int)] 22) := by
  go_enter Tryz.func53, Tryz.ntmps53
  go_wp2_with fail
  go_ret
  exact ⟨rfl, rfl⟩
/-- What is due: the newest line of the frame. -/
def dueL (ls : List PL) (f : Nat) : Int × Bool := if 0 < (revF ls f 0).length then (((revF ls f 0).getD 0 pl0).rt, true) else (0, false)
def lnO (x : PL) : Obj := .cells #[.int .u32 (x.fr : Int), .int .i64 x.rt] 71
/-- The frame when a round's variable is made. -/
def dueAct (pv : Value) (f b0 pb g : Nat) (v : Value) : Act :=
  { tmps := #[pv, .int .u32 (f : Int), .pointer (some ⟨b0, 0, none⟩), undef, .pointer (some ⟨b0 + 1, 0, none⟩), .pointer (some ⟨b0 + 2, 0, none⟩), .pointer (some ⟨g, 0, none⟩), pv, .int .u32 (f : Int), .func (.func 83) #[] #[.pointer (some ⟨pb, 0, none⟩), .pointer (some ⟨pb + 1, 0, none⟩)], v, undef, undef], defers := [] }
/-- Ahead of each round. -/
def DueI (B b0 : Nat) (w : World) (LK : World → Prop) (x : Nat) (Fb : Nat → Prop) (W : World) : Prop :=
  x = 0 ∧ Below w.heap.size w W ∧ B ≤ W.heap.size ∧ ¬ Fb (b0 + 1) ∧ ¬ Fb (b0 + 2) ∧ W.heap[b0 + 1]? = some (.cells #[.int .i64 0] 3 (0, 0)) ∧ W.heap[b0 + 2]? = some (.cells #[.bool false] 4 (0, 0)) ∧ LK W
def DueX (B b0 : Nat) (w : World) (LK : World → Prop) (x : PL) (W : World) : Prop :=
  Below w.heap.size w W ∧ B ≤ W.heap.size ∧ W.heap[b0 + 1]? = some (.cells #[.int .i64 x.rt] 3 (0, 0)) ∧ W.heap[b0 + 2]? = some (.cells #[.bool true] 4 (0, 0)) ∧ LK W
theorem box_only {w w' : World} {M : Nat → Prop} {b : Nat} {o : Obj} (h : w.heap[b]? = some o) (ho : Only M w w') (hm : ¬ M b) : w'.heap[b]? = some o := (ho.block b (heap_lt h) hm).trans h
theorem set_other {w : World} {b c off : Nat} {v : Value} {o : Obj} (h : w.heap[c]? = some o) (hne : c ≠ b) : (w.setCell ⟨b, off, none⟩ v).heap[c]? = some o := box_only h ((Only.refl (fun i => i = b) w).set off v (.inr rfl)) hne
theorem not_row {k r : Nat} {A : World} {cs : Array Value} {t : TypeId} {fr : Nat × Nat} {o : Obj} (h : A.heap[k]? = some (.cells cs t fr)) (ho : A.heap[r]? = some o) (hc : o.isCells = false) : k ≠ r := by
  rintro rfl
  rw [h] at ho; cases ho; simp [Obj.isCells] at hc
theorem pls_grown {A B : World} {a : Option Addr} {ls : List PL} {row : Option Nat} (h : PlsAt A a ls) (hg : A.grownBy B row) (hr : ∀ r, row = some r → ∃ o : Obj, A.heap[r]? = some o ∧ o.isCells = false) : PlsAt B a ls := by
  rcases h with h | ⟨b, off, rfl, hlt, hc⟩
  · exact .inl h
  · by_cases h0 : ls.length = 0
    · exact .inl h0
    · have e : B.heap[b]? = A.heap[b]? := hg.block b hlt (fun e => by
        obtain ⟨o, ho, h1⟩ := hr b e.symm
        have c0 := hc 0 (by omega) 0 (by omega)
        cases o <;> simp_all [World.cell?, Obj.isCells])
      exact .inr ⟨b, off, rfl, Nat.lt_of_lt_of_le hlt hg.size, fun i hi j hj => (World.cell?_of_block e).trans (hc i hi j hj)⟩
theorem LnK.grown {A B : World} {ls : List PL} {a : Option Addr} {n c base f pb fb : Nat} {port : Int} {row : Option Nat} (h : LnK ls a n c base f pb fb port A) (hg : A.grownBy B row) (hr : ∀ r, row = some r → ∃ o : Obj, A.heap[r]? = some o ∧ o.isCells = false) : LnK ls a n c base f pb fb port B := by
  have key : ∀ {k : Nat} {cs : Array Value} {t : TypeId} {fr : Nat × Nat}, A.heap[k]? = some (Obj.cells cs t fr) → B.heap[k]? = some (Obj.cells cs t fr) := fun {k cs t fr} hk => (hg.block k (heap_lt hk) (fun e => by
    obtain ⟨o, ho, hc⟩ := hr k e.symm
    exact not_row hk ho hc rfl)).trans hk
  exact ⟨key h.pc, key h.fc, pls_grown h.ln hg hr⟩
theorem DueI.grown {B b0 : Nat} {w : World} {LK : World → Prop} {x : Nat} {Fb : Nat → Prop} {W W' : World} {row : Option Nat} (h : DueI B b0 w LK x Fb W) (hg : W.grownBy W' row) (hr : ∀ r, row = some r → B ≤ r ∧ ∃ o : Obj, W.heap[r]? = some o ∧ o.isCells = false) (hB : w.heap.size ≤ B) (hLK : ∀ A B row, LK A → A.grownBy B row → (∀ r, row = some r → ∃ o : Obj, A.heap[r]? = some o ∧ o.isCells = false) → LK B) : DueI B b0 w LK x Fb W' := by
  obtain ⟨e, h1, h2, h3, h4, k1, k2, k3⟩ := h
  have key : ∀ {k : Nat} {cs : Array Value} {t : TypeId} {fr : Nat × Nat}, W.heap[k]? = some (Obj.cells cs t fr) → W'.heap[k]? = some (Obj.cells cs t fr) := fun {k cs t fr} hk => (hg.block k (heap_lt hk) (fun e => by
    obtain ⟨_, o, ho, hc⟩ := hr k e.symm
    exact not_row hk ho hc rfl)).trans hk
  exact ⟨e, h1.grown hg h1.size (fun j e => Nat.le_trans hB (hr j e).1), Nat.le_trans h2 hg.size, h3, h4, key k1, key k2, hLK _ _ _ k3 hg (fun r e => (hr r e).2)⟩
theorem DueI.below {B b0 : Nat} {w : World} {LK : World → Prop} {x : Nat} {Fb : Nat → Prop} {A W : World} (h : DueI B b0 w LK x Fb A) (hb : Below A.heap.size A W) (hLK : ∀ A B, LK A → Below A.heap.size A B → LK B) : DueI B b0 w LK x (extF Fb A W) W := by
  obtain ⟨e, h1, h2, h3, h4, k1, k2, k3⟩ := h
  have l1 := heap_lt k1; have l2 := heap_lt k2
  exact ⟨e, h1.trans (hb.mono h1.size), Nat.le_trans h2 hb.size, fun e => e.elim h3 (fun e => by omega), fun e => e.elim h4 (fun e => by omega), kept k1 hb, kept k2 hb, hLK _ _ k3 hb⟩
theorem DueI.below' {B b0 : Nat} {w : World} {LK : World → Prop} {x : Nat} {Fb : Nat → Prop} {A W : World} (h : DueI B b0 w LK x Fb A) (hb : Below A.heap.size A W) (hLK : ∀ A B, LK A → Below A.heap.size A B → LK B) : DueI B b0 w LK x Fb W := by
  obtain ⟨e, h1, h2, h3, h4, k1, k2, k3⟩ := h
  exact ⟨e, h1.trans (hb.mono h1.size), Nat.le_trans h2 hb.size, h3, h4, kept k1 hb, kept k2 hb, hLK _ _ k3 hb⟩
theorem DueX.grown {B b0 : Nat} {w : World} {LK : World → Prop} {x : PL} {W W' : World} {row : Option Nat} (h : DueX B b0 w LK x W) (hg : W.grownBy W' row) (hr : ∀ r, row = some r → B ≤ r ∧ ∃ o : Obj, W.heap[r]? = some o ∧ o.isCells = false) (hB : w.heap.size ≤ B) (hLK : ∀ A B row, LK A → A.grownBy B row → (∀ r, row = some r → ∃ o : Obj, A.heap[r]? = some o ∧ o.isCells = false) → LK B) : DueX B b0 w LK x W' := by
  obtain ⟨h1, h2, k1, k2, k3⟩ := h
  have key : ∀ {k : Nat} {cs : Array Value} {t : TypeId} {fr : Nat × Nat}, W.heap[k]? = some (Obj.cells cs t fr) → W'.heap[k]? = some (Obj.cells cs t fr) := fun {k cs t fr} hk => (hg.block k (heap_lt hk) (fun e => by
    obtain ⟨_, o, ho, hc⟩ := hr k e.symm
    exact not_row hk ho hc rfl)).trans hk
  exact ⟨h1.grown hg h1.size (fun j e => Nat.le_trans hB (hr j e).1), Nat.le_trans h2 hg.size, key k1, key k2, hLK _ _ _ k3 hg (fun r e => (hr r e).2)⟩
theorem DueX.below {B b0 : Nat} {w : World} {LK : World → Prop} {x : PL} {A W : World} (h : DueX B b0 w LK x A) (hb : Below A.heap.size A W) (hLK : ∀ A B, LK A → Below A.heap.size A B → LK B) : DueX B b0 w LK x W := by
  obtain ⟨h1, h2, k1, k2, k3⟩ := h
  exact ⟨h1.trans (hb.mono h1.size), Nat.le_trans h2 hb.size, kept k1 hb, kept k2 hb, hLK _ _ k3 hb⟩
set_option maxRecDepth 100000 in
set_option maxHeartbeats 8000000 in
theorem due_in (m : Nat) (h4 : 4 ≤ m) (ls : List PL) (a : Option Addr) (c base f : Nat) (port : Int) (w : World) (hm : ls.length ≤ 1000000) (hA : PlsAt w a ls) :
    CallsIn Fence.wide m Tryz.prog 20 #[.agg #[.int .u32 (base : Int), .int .i64 port, .slice a ls.length c], .int .u32 (f : Int)] w fun e w' => e = .returned (.tuple #[.int .i64 (dueL ls f).1, .bool (dueL ls f).2]) ∧ Below w.heap.size w w' := by
  obtain ⟨n, hn⟩ : ∃ n, n = ls.length := ⟨_, rfl⟩
  rw [← hn] at hm ⊢
  have HN := Lib.hid hn
  obtain ⟨res, hres⟩ : ∃ r, r = dueL ls f := ⟨_, rfl⟩
  rw [← hres]
  have HRS := Lib.hid hres
  obtain ⟨w1, hw1⟩ : ∃ x, x = ((w.alloc (.cells #[.int .u32 (base : Int), .int .i64 port, .slice a n c] 25)).alloc (.cells #[.int .i64 0] 3)).alloc (.cells #[.bool false] 4) := ⟨_, rfl⟩
  have z0 : (w.alloc (.cells #[.int .u32 (base : Int), .int .i64 port, .slice a n c] 25)).heap.size = w.heap.size + 1 := Array.size_push _
  have z1 : ((w.alloc (.cells #[.int .u32 (base : Int), .int .i64 port, .slice a n c] 25)).alloc (.cells #[.int .i64 0] 3)).heap.size = w.heap.size + 2 := by rw [World.size_alloc, z0]
  have A1 : Hid (Below w.heap.size w w1) := by rw [hw1]; exact (alloc_below w _).trans (((alloc_below _ _).trans ((alloc_below _ _).mono (by rw [z1, z0]; omega))).mono (by rw [z0]; omega))
  have P1 : Hid (w1.heap[w.heap.size]? = some (.cells #[.int .u32 (base : Int), .int .i64 port, .slice a n c] 25 (0, 0))) := by rw [hw1]; exact kept (kept (heap_alloc_new _ _) (alloc_below _ _)) (alloc_below _ _)
  have R1 : Hid (w1.heap[w.heap.size + 1]? = some (.cells #[.int .i64 0] 3 (0, 0))) := by
    rw [hw1, ← z0]; exact kept (heap_alloc_new _ _) (alloc_below _ _)
  have Q1 : Hid (w1.heap[w.heap.size + 2]? = some (.cells #[.bool false] 4 (0, 0))) := by
    rw [hw1, ← z1]; exact heap_alloc_new _ _
  have L1 : Hid (PlsAt w1 a ls) := hA.below A1.out
  have HNA : Hid (∀ b o, 0 < n → a = some ⟨b, o, none⟩ → b < w.heap.size) := fun b o h0 e => by
    obtain ⟨b', off', e', hb', _⟩ := hA.at (by omega)
    rw [e] at e'; cases e'; exact hb'
  have HW1 := Lib.hid hw1
  clear hw1 hA hn hres z0 z1
  refine callsIn_of_wp_marks Tryz.func20 rfl trivial ?_ rfl
  simp only [Tryz.ntmps20, List.size_toArray, List.length_cons, List.length_nil, Nat.reduceAdd, Nat.reduceSub, Array.replicate_succ, Array.replicate_zero, List.push_toArray, List.append_toArray, List.nil_append, List.cons_append]
  gi_upto_region 1 with (fail)
  rw [← HW1.out]
  have p0 := cell_row (j := 0) P1.out rfl
  have p1 := cell_row (j := 1) P1.out rfl
  have p2 := cell_row (j := 2) P1.out rfl
  have lp := heap_lt P1.out
  gi_wp2_with (fail)
  refine ⟨trivial, fun h => (by omega), (callsIn_wide.2 (pof_any a n c base f port w1)).mono ?_⟩
  rintro e w' ⟨rfl, rfl⟩
  obtain ⟨w3, hw3⟩ : ∃ x, x = (w1.alloc (.cells #[.int .u32 (base : Int), .int .i64 port, .slice a n c] 25)).alloc (.cells #[.int .u32 (f : Int)] 22) := ⟨_, rfl⟩
  rw [← hw3]
  have z1 : (w1.alloc (.cells #[.int .u32 (base : Int), .int .i64 port, .slice a n c] 25)).heap.size = w1.heap.size + 1 := Array.size_push _
  have B3 : Hid (Below w1.heap.size w1 w3) := by rw [hw3]; exact (alloc_below w1 _).trans ((alloc_below _ _).mono (by rw [z1]; omega))
  have K3 : Hid (LnK ls a n c base f w1.heap.size (w1.heap.size + 1) port w3) := ⟨by rw [hw3]; exact kept (heap_alloc_new _ _) (alloc_below _ _), by rw [hw3, ← z1]; exact heap_alloc_new _ _, L1.out.below B3.out⟩
  have R3 := Lib.hid (kept R1.out B3.out)
  have Q3 := Lib.hid (kept Q1.out B3.out)
  have A3 : Hid (Below w.heap.size w w3) := A1.out.trans (B3.out.mono A1.out.size)
  have HBR : Hid (w.heap.size + 2 < w1.heap.size) := heap_lt Q1.out
  clear hw3 z1 B3 R1 Q1 P1 L1 HW1 A1 p0 p1 p2 lp
  generalize hpb : w1.heap.size = pb at *
  clear hpb w1
  have HNK : Hid (∀ b, KbL a n pb (pb + 1) b → b ≠ w.heap.size + 1 ∧ b ≠ w.heap.size + 2) := fun b hb => by
    have := HBR.out
    rcases hb with rfl | rfl | ⟨h1, o, e⟩
    · omega
    · omega
    · have := HNA.out b o h1 e; omega
  gi_wp2_with (fail)
  have HQ := of1_in (m - 1) ls a n c base f pb (pb + 1) port w3 HN.out hm K3.out
  obtain ⟨B, hB⟩ : ∃ B, B = w3.heap.size := ⟨_, rfl⟩
  have HBw := Lib.hid hB
  have HMW := Lib.hid A3.out.size
  refine rangeFunc_d (ps := #[10]) rfl (by omega) (gf := 83) (lb := #[.pointer (some ⟨pb, 0, none⟩), .pointer (some ⟨pb + 1, 0, none⟩)]) rfl trivial (enters_of Tryz.func83 (by kernel_rfl) rfl)
    (Kb := KbL a n pb (pb + 1)) (N := (revF ls f 0).length) (fun b hb => by
      rcases hb with rfl | rfl | ⟨h1, o, e⟩
      · exact heap_lt K3.out.pc
      · exact heap_lt K3.out.fc
      · exact Nat.lt_of_lt_of_le (HNA.out b o h1 e) HMW.out) HQ (fun _ => rfl)
    (fun x Fb W => DueI B w.heap.size w (LnK ls a n c base f pb (pb + 1) port) x Fb W) (fun c' x Fb W => c' = .ret ∧ DueX B w.heap.size w (LnK ls a n c base f pb (pb + 1) port) ((revF ls f 0).getD 0 pl0) W ∧ 0 < (revF ls f 0).length)
    (fun Fb s W W' row h hg hr => h.grown hg (fun r e => ⟨by rw [hB]; exact (hr r e).1, (hr r e).2⟩) (by rw [hB]; exact A3.out.size) (fun A B row h hg hr => h.grown hg hr))
    (fun _ Fb s W W' row h hg hr => ⟨h.1, h.2.1.grown hg (fun r e => ⟨by rw [hB]; exact (hr r e).1, (hr r e).2⟩) (by rw [hB]; exact A3.out.size) (fun A B row h hg hr => h.grown hg hr), h.2.2⟩)
    (fun s Fb A W h hb => h.below hb (fun A B h hb => h.below hb)) (fun _ s Fb A W h hb => ⟨h.1, h.2.1.below hb (fun A B h hb => h.below hb), h.2.2⟩)
    (fun _ s Fb A h => h.2.1.2.2.2.2) (fun s Fb A W h hb => h.below' hb (fun A B h hb => h.below hb))
    (fun A hA => ⟨rfl, A3.out.trans (hA.mono A3.out.size), by rw [hB]; exact hA.size, fun e => (HNK.out _ e).1 rfl, fun e => (HNK.out _ e).2 rfl, kept R3.out hA, kept Q3.out hA, K3.out.below hA⟩)
    (fun x a' W => ∃ g, a' = dueAct (.agg #[.int .u32 (base : Int), .int .i64 port, .slice a n c]) f w.heap.size pb g (.agg #[.int .u32 (((revF ls f 0).getD x pl0).fr : Int), .int .i64 ((revF ls f 0).getD x pl0).rt]) ∧ W.heap[g]? = some (lnO ((revF ls f 0).getD x pl0)))
    ?hAo ?assign ?body ?done ?stop
  case hAo =>
    intro x a' s W W' row h hg hr
    obtain ⟨g, e1, e2⟩ := h
    exact ⟨g, e1, (hg.block g (heap_lt e2) (fun e => by
      obtain ⟨_, o, ho, hc⟩ := hr g e.symm
      exact not_row e2 ho hc rfl)).trans e2⟩
  case assign =>
    intro l x W K hx hK
    unfold encL
    clear HQ R3 Q3 K3 hB
    generalize (revF ls f 0).getD x pl0 = r at *
    have HA : Hid ((W.alloc (.cells #[.int .u32 (r.fr : Int), .int .i64 r.rt] 71)).heap[W.heap.size]? = some (lnO r)) := heap_alloc_new _ _
    have HBl : Hid (Below W.heap.size W (W.alloc (.cells #[.int .u32 (r.fr : Int), .int .i64 r.rt] 71))) := alloc_below W _
    have HKK := Lib.hid hK
    clear hK
    gi_wp2
    exact HKK.out _ _ HBl.out ⟨W.heap.size, rfl, HA.out⟩
  case body =>
    intro l x Fb a' W hx hl hF hI hA
    obtain ⟨g, rfl, e2⟩ := hA
    obtain ⟨rfl, i1, i2, i3, i4, k1, k2, k3⟩ := hI
    clear HQ R3 Q3 hB K3
    generalize (revF ls f 0).getD 0 pl0 = r at *
    unfold lnO at e2
    unfold dueAct
    have c1 := cell_row (j := 1) e2 rfl
    have lg := heap_lt e2
    have r1 : W.cell? ⟨w.heap.size + 1, 0, none⟩ = some (.int .i64 0) := cell_row (j := 0) k1 rfl
    have f1 : W.frozen? ⟨w.heap.size + 1, 0, none⟩ = false := frozen_of_row _ _ _ _ _ k1
    have l1 := heap_lt k1
    have k2' : (W.setCell ⟨w.heap.size + 1, 0, none⟩ (.int .i64 r.rt)).heap[w.heap.size + 2]? = some (.cells #[.bool false] 4 (0, 0)) := set_other k2 (by omega)
    have r2 : (W.setCell ⟨w.heap.size + 1, 0, none⟩ (.int .i64 r.rt)).cell? ⟨w.heap.size + 2, 0, none⟩ = some (.bool false) := cell_row (j := 0) k2' rfl
    have f2 : (W.setCell ⟨w.heap.size + 1, 0, none⟩ (.int .i64 r.rt)).frozen? ⟨w.heap.size + 2, 0, none⟩ = false := frozen_of_row _ _ _ _ _ k2'
    have l2 := heap_lt k2'
    obtain ⟨V, hV⟩ : ∃ V, V = (W.setCell ⟨w.heap.size + 1, 0, none⟩ (.int .i64 r.rt)).setCell ⟨w.heap.size + 2, 0, none⟩ (.bool true) := ⟨_, rfl⟩
    have O : Hid (Only (fun i => i = w.heap.size + 1 ∨ i = w.heap.size + 2) W V) := by rw [hV]; exact ((Only.refl _ _).set 0 _ (.inr (.inl rfl))).set 0 _ (.inr (.inr rfl))
    have V1 : Hid (V.heap[w.heap.size + 1]? = some (.cells #[.int .i64 r.rt] 3 (0, 0))) := by rw [hV]; exact set_other (heap_setCell_same _ _ _ _ _ _ k1) (by omega)
    have V2 : Hid (V.heap[w.heap.size + 2]? = some (.cells #[.bool true] 4 (0, 0))) := by rw [hV]; exact heap_setCell_same _ _ _ _ _ _ k2'
    have BV : Hid (Below w.heap.size w V) := i1.trans (O.out.below i1.size (fun i hi hm => by omega))
    have SV : Hid (W.heap.size ≤ V.heap.size) := O.out.size
    have KV : Hid (KeepsFrom w3.heap.size W V) := ⟨SV.out, fun k o hk hko hoc => box_only hko O.out (fun e => by
      rcases e with rfl | rfl
      · rw [k1] at hko; cases hko; cases hoc
      · rw [k2] at hko; cases hko; cases hoc)⟩
    have LV : Hid (LnK ls a n c base f pb (pb + 1) port V) := k3.keep HN.out (Fb := KbL a n pb (pb + 1)) (fun b o hb h => box_only h O.out (fun e => by
      have := HNK.out b hb
      rcases e with rfl | rfl
      · exact this.1 rfl
      · exact this.2 rfl)) (fun b h => h) SV.out
    have HV := Lib.hid hV
    have I2 := Lib.hid i2; have HX := Lib.hid hx
    clear hV k1 k2 k2' k3 i1 i2 i3 i4 e2 hF hx O
    gi_wp2_with (fail)
    rw [← HV.out]
    exact ⟨KV.out, rfl, ⟨BV.out, Nat.le_trans I2.out SV.out, V1.out, V2.out, LV.out⟩, by have := HX.out; omega⟩
  case done =>
    intro D Fb W hD hI hK
    obtain ⟨hz, i1, i2, i3, i4, k1, k2, k3⟩ := hI
    have hres : res = (0, false) := by rw [HRS.out]; unfold dueL; rw [if_neg (by omega)]
    subst hres
    have HD := Lib.hid hD
    have HNE : Hid (w.heap.size + 1 ≠ D ∧ w.heap.size + 2 ≠ D) := ⟨fun e => by (rw [← e, k1] at hK; cases hK), fun e => by (rw [← e, k2] at hK; cases hK)⟩
    have r1 : W.cell? ⟨w.heap.size + 1, 0, none⟩ = some (.int .i64 0) := cell_row (j := 0) k1 rfl
    have f1 : W.frozen? ⟨w.heap.size + 1, 0, none⟩ = false := frozen_of_row _ _ _ _ _ k1
    have l1 := heap_lt k1
    have k2' : (W.setCell ⟨w.heap.size + 1, 0, none⟩ (.int .i64 0)).heap[w.heap.size + 2]? = some (.cells #[.bool false] 4 (0, 0)) := set_other k2 (by omega)
    have r2 : (W.setCell ⟨w.heap.size + 1, 0, none⟩ (.int .i64 0)).cell? ⟨w.heap.size + 2, 0, none⟩ = some (.bool false) := cell_row (j := 0) k2' rfl
    have f2 : (W.setCell ⟨w.heap.size + 1, 0, none⟩ (.int .i64 0)).frozen? ⟨w.heap.size + 2, 0, none⟩ = false := frozen_of_row _ _ _ _ _ k2'
    have l2 := heap_lt k2'
    obtain ⟨V, hV⟩ : ∃ V, V = (W.setCell ⟨w.heap.size + 1, 0, none⟩ (.int .i64 0)).setCell ⟨w.heap.size + 2, 0, none⟩ (.bool false) := ⟨_, rfl⟩
    have O : Hid (Only (fun i => i = w.heap.size + 1 ∨ i = w.heap.size + 2) W V) := by rw [hV]; exact ((Only.refl _ _).set 0 _ (.inr (.inl rfl))).set 0 _ (.inr (.inr rfl))
    have V1 : Hid (V.heap[w.heap.size + 1]? = some (.cells #[.int .i64 0] 3 (0, 0))) := by rw [hV]; exact set_other (heap_setCell_same _ _ _ _ _ _ k1) (by omega)
    have V2 : Hid (V.heap[w.heap.size + 2]? = some (.cells #[.bool false] 4 (0, 0))) := by rw [hV]; exact heap_setCell_same _ _ _ _ _ _ k2'
    have BV : Hid (Below w.heap.size w V) := i1.trans (O.out.below i1.size (fun i hi hm => by omega))
    have VD : Hid (V.heap[D]? = some (.deferred (some []))) := box_only hK O.out (fun e => by
      rcases e with rfl | rfl
      · exact HNE.out.1 rfl
      · exact HNE.out.2 rfl)
    have HV := Lib.hid hV
    clear hV k1 k2 k2' k3 i1 i2 i3 i4 hK hD HQ R3 Q3 hB K3 O
    gi_wp2_with (fail)
    rw [← HV.out]
    refine ⟨by simp, .inl ⟨_, _, rfl, run_takeDeferred VD.out, ?_⟩⟩
    have q1 : (V.putObj D (.deferred none)).cell? ⟨w.heap.size + 1, 0, none⟩ = some (.int .i64 0) := by
      rw [World.cell?_of_block (World.putObj_heap_other (by show w.heap.size + 1 ≠ D; exact HNE.out.1))]; exact cell_row (j := 0) V1.out rfl
    have q2 : (V.putObj D (.deferred none)).cell? ⟨w.heap.size + 2, 0, none⟩ = some (.bool false) := by
      rw [World.cell?_of_block (World.putObj_heap_other (by show w.heap.size + 2 ≠ D; exact HNE.out.2))]; exact cell_row (j := 0) V2.out rfl
    refine ⟨.tuple #[.int .i64 0, .bool false], by simp [results, Tryz.f20, go_sem, q1, q2], rfl, ?_⟩
    refine BV.out.grown (grownBy_putObj' V D (.deferred none)) BV.out.size (fun j e => ?_)
    cases e
    exact Nat.le_trans HMW.out HD.out
  case stop =>
    intro D c' x Fb W hD h0 hxN hI hK
    obtain ⟨rfl, ⟨i1, i2, k1, k2, k3⟩, hz⟩ := hI
    have hres : res = (((revF ls f 0).getD 0 pl0).rt, true) := by rw [HRS.out]; unfold dueL; rw [if_pos hz]
    clear hz hxN HQ R3 Q3 hB K3 HRS
    generalize (revF ls f 0).getD 0 pl0 = r at *
    have HRE := Lib.hid hres
    clear hres
    have HD := Lib.hid hD
    have HNE : Hid (w.heap.size + 1 ≠ D ∧ w.heap.size + 2 ≠ D) := ⟨fun e => by (rw [← e, k1] at hK; cases hK), fun e => by (rw [← e, k2] at hK; cases hK)⟩
    have I1 := Lib.hid i1; have K1 := Lib.hid k1; have K2 := Lib.hid k2; have KD := Lib.hid hK
    clear i1 i2 k1 k2 k3 hK hD
    gi_wp2_with (fail)
    refine ⟨by simp, .inl ⟨_, _, rfl, run_takeDeferred KD.out, ?_⟩⟩
    have q1 : (W.putObj D (.deferred none)).cell? ⟨w.heap.size + 1, 0, none⟩ = some (.int .i64 r.rt) := by
      rw [World.cell?_of_block (World.putObj_heap_other (by show w.heap.size + 1 ≠ D; exact HNE.out.1))]; exact cell_row (j := 0) K1.out rfl
    have q2 : (W.putObj D (.deferred none)).cell? ⟨w.heap.size + 2, 0, none⟩ = some (.bool true) := by
      rw [World.cell?_of_block (World.putObj_heap_other (by show w.heap.size + 2 ≠ D; exact HNE.out.2))]; exact cell_row (j := 0) K2.out rfl
    refine ⟨.tuple #[.int .i64 r.rt, .bool true], by simp [results, Tryz.f20, go_sem, q1, q2], by rw [HRE.out], ?_⟩
    refine I1.out.grown (grownBy_putObj' W D (.deferred none)) I1.out.size (fun j e => ?_)
    cases e
    exact Nat.le_trans HMW.out HD.out
theorem due_any (ls : List PL) (a : Option Addr) (c base f : Nat) (port : Int) (w : World) (hm : ls.length ≤ 1000000) (hA : PlsAt w a ls) :
    Calls Tryz.prog 20 #[.agg #[.int .u32 (base : Int), .int .i64 port, .slice a ls.length c], .int .u32 (f : Int)] w fun e w' => e = .returned (.tuple #[.int .i64 (dueL ls f).1, .bool (dueL ls f).2]) ∧ Below w.heap.size w w' :=
  (callsIn_wide (n := 4)).1 (due_in 4 (Nat.le_refl _) ls a c base f port w hm hA)
end Go.Proofs.YtdlpgoackmgdkaaGreatDoor
