/- Ready for FieldFrame: the output words as a slice of one's own; the words that are put behind no words. -/
import Derived.Test.YtdelcndaogjngaaFieRead
namespace Go.Proofs.Ytdelcndaogjngaa
open Go.RowKit
set_option linter.unusedVariables false
/-- A slice whose block is not below B. -/
def OwnAt (w : World) (B : Nat) (a : Option Addr) (n : Nat) (V : Nat → Value) : Prop := n = 0 ∨ ∃ b off, a = some ⟨b, off, none⟩ ∧ B ≤ b ∧ b < w.heap.size ∧ ∀ i, i < n → w.cell? ⟨b, off + i, none⟩ = some (V i)
theorem OwnAt.at {w : World} {B : Nat} {a : Option Addr} {n : Nat} {V : Nat → Value} (h : OwnAt w B a n V) : SliceAt w a n V := by
  rcases h with h | ⟨b, off, e, -, hlt, hc⟩
  · exact .inl h
  · exact .inr ⟨b, off, e, hlt, hc⟩
theorem OwnAt.only {M : Nat → Prop} {w w' : World} {B : Nat} {a : Option Addr} {n : Nat} {V : Nat → Value} (h : OwnAt w B a n V) (ho : Only M w w') (hM : ∀ b, B ≤ b → ¬ M b) : OwnAt w' B a n V := by
  rcases h with h | ⟨b, off, rfl, hB, hlt, hc⟩
  · exact .inl h
  · exact .inr ⟨b, off, rfl, hB, Nat.lt_of_lt_of_le hlt ho.size, fun i hi => by
      have := ho.block b hlt (hM b hB)
      rw [← hc i hi]; simp [World.cell?, this]⟩
theorem OwnAt.below {w w' : World} {B : Nat} {a : Option Addr} {n : Nat} {V : Nat → Value} (h : OwnAt w B a n V) (hb : Below w.heap.size w w') : OwnAt w' B a n V := h.only (M := fun _ => False) (Only.of_below _ hb) (fun _ _ h => h)
/-- The same, its block between two bounds. -/
def OwnIn (w : World) (B C : Nat) (a : Option Addr) (n : Nat) (V : Nat → Value) : Prop := n = 0 ∨ ∃ b off, a = some ⟨b, off, none⟩ ∧ B ≤ b ∧ b < C ∧ b < w.heap.size ∧ ∀ i, i < n → w.cell? ⟨b, off + i, none⟩ = some (V i)
theorem OwnAt.in {w : World} {B : Nat} {a : Option Addr} {n : Nat} {V : Nat → Value} (h : OwnAt w B a n V) : OwnIn w B w.heap.size a n V := by
  rcases h with h | ⟨b, off, e, hB, hlt, hc⟩
  · exact .inl h
  · exact .inr ⟨b, off, e, hB, hlt, hlt, hc⟩
theorem OwnIn.at {w : World} {B C : Nat} {a : Option Addr} {n : Nat} {V : Nat → Value} (h : OwnIn w B C a n V) : SliceAt w a n V := by
  rcases h with h | ⟨b, off, e, -, -, hlt, hc⟩
  · exact .inl h
  · exact .inr ⟨b, off, e, hlt, hc⟩
theorem OwnIn.only {M : Nat → Prop} {w w' : World} {B C : Nat} {a : Option Addr} {n : Nat} {V : Nat → Value} (h : OwnIn w B C a n V) (ho : Only M w w') (hM : ∀ b, B ≤ b → b < C → ¬ M b) : OwnIn w' B C a n V := by
  rcases h with h | ⟨b, off, rfl, hB, hC, hlt, hc⟩
  · exact .inl h
  · exact .inr ⟨b, off, rfl, hB, hC, Nat.lt_of_lt_of_le hlt ho.size, fun i hi => by
      have := ho.block b hlt (hM b hB hC)
      rw [← hc i hi]; simp [World.cell?, this]⟩
theorem OwnIn.below {w w' : World} {B C : Nat} {a : Option Addr} {n : Nat} {V : Nat → Value} (h : OwnIn w B C a n V) (hb : Below w.heap.size w w') : OwnIn w' B C a n V := h.only (M := fun _ => False) (Only.of_below _ hb) (fun _ _ _ h => h)
theorem outE_zero {f : FS} {p n : Int} (h : outE f p n = 0) : p = f.wr ∧ 0 ≤ n ∧ n < f.nS := by
  unfold outE at h
  split at h
  · cases h
  · rename_i h1
    split at h
    · cases h
    · rename_i h2; exact ⟨by simpa using h1, by omega, by omega⟩
theorem inE_zero {f : FS} {p n : Int} (h : inE f p n = 0) : 0 ≤ n ∧ n < f.nI := by
  unfold inE at h
  split at h
  · cases h
  · split at h
    · cases h
    · rename_i h2; exact ⟨by omega, by omega⟩
set_option maxHeartbeats 2000000 in
theorem outs_own (g : Nat) (f : FS) (hg : f.g = g) (n : Nat) (hn' : f.nS = n) (w : World) (h : FieldAt w f) :
    Calls Try.prog 22 #[.pointer (some ⟨g, 0, none⟩)] w fun e w' => ∃ a c, e = .returned (.slice a n c) ∧ OwnAt w' w.heap.size a n (uV f.outs) ∧ Below w.heap.size w w' := by
  subst hg; subst hn'
  have c4 : w.cell? ⟨f.g, 5, none⟩ = some f.vo := h.cell 5 _ rfl
  obtain ⟨a, c, hv, h1, h2, h3⟩ := h.outs.slice
  have hn := h.ok.nS
  rw [hv] at c4
  have HS := Lib.hid h3
  clear h3 hv h
  go_enter Try.func22, Try.ntmps22
  go_wp2_with fail
  refine (clone_u32 a f.nS c (uV f.outs) w (uV_one _) (by omega) HS.out).mono ?_
  rintro e w1 ⟨v, rfl, ⟨b, ⟨a', c', rfl, h4, h5, h6⟩, h7⟩, hb⟩
  have hO : OwnAt w1 w.heap.size a' f.nS (uV f.outs) := by
    by_cases hp : 0 < f.nS
    · obtain ⟨rfl, hr⟩ := h6 hp
      exact .inr ⟨b, 0, rfl, (h7 hp).1, (h7 hp).2, fun i hi => by rw [Nat.zero_add]; exact hr.cell hi⟩
    · exact .inl (by omega)
  have H1 := Lib.hid hO; have H2 := Lib.hid hb
  clear h4 h5 h6 h7 hb hO
  go_wp2_with fail
  go_ret
  exact ⟨_, _, rfl, H1.out, H2.out⟩
def WordsAt (W w' : World) (v : Value) (gs m : Nat) (X : Nat → Nat) : Prop := (∃ b, SlAt w' v b 23 m (uV X) ∧ (0 < m → gs ≤ b ∧ b < w'.heap.size)) ∧ W.grownBy w' (some gs)
/-- append([]uint32{}, l...): the operation. -/
theorem wpList_words {ops : Array Oper} {rest : List Oper} {o : Oper} {a : Act} {Q : Exit → Act → World → Prop} {W : World} (hgd : o.guard = none) (s x : Operand)
    (ho : o.op = .call { callee := .builtin .append, args := #[s, x], argTypes := #[22, 22] }) {gs : Nat} (hs : a.eval s = .slice (some ⟨gs, 0, none⟩) 0 0) (hg : W.heap[gs]? = some (.cells #[] 23 (0, 0)))
    (ad : Option Addr) (m c : Nat) (X : Nat → Nat) (hx : a.eval x = .slice ad m c) (hm : m ≤ 1000000) (hX : SliceAt W ad m (uV X))
    (h : ∀ v w', WordsAt W w' v gs m X → wpList Try.prog ops Q rest (a.put o.dst v) w') : wpList Try.prog ops Q (o :: rest) a W := by
  obtain ⟨i0, hi, hz0, hz1, hz2⟩ := info_parts info23
  have hgs := heap_lt hg
  have hown : W.ownsRow gs 23 1 (.slice (some ⟨gs, 0, none⟩) 0 0) 0 [] := ⟨rfl, .inr ⟨gs, 0, #[], rfl, Nat.le_refl _, hg, Nat.le_refl _, by unfold maxLen; omega, rfl, rfl⟩⟩
  cases ad with
  | none =>
    have hn0 : m = 0 := hX.elim id (fun h => by obtain ⟨b, off, h, _⟩ := h; cases h)
    subst hn0
    refine wpList_plain hgd fun _ hK => ?_
    have hr : (Builtin.append_ #[22, 22] o.type #[.slice (some ⟨gs, 0, none⟩) 0 0, .slice none 0 c]).run Try.prog W = .ok (.slice (some ⟨gs, 0, none⟩) 0 0) W := by
      simp [Builtin.append_, run_underlying (show Try.prog.underlying 22 = some (.slice 23) from Try.underlying22), sizeOf, typeInfo, hi, Builtin.lenOf, Builtin.firstCells, loadCells, loadCellsFrom, storeCells]
    unfold Oper.wp execOp
    simp only [ho, resolve, invoke, builtin, Sem.run_bind, Sem.run_pure, Result.andThen_ok, List.map_toArray, List.map_cons, List.map_nil, hs, hx, hr]
    exact hK _ _ (h _ _ ⟨⟨gs, ⟨_, 0, rfl, Nat.le_refl _, by unfold maxLen; omega, fun hp => absurd hp (by omega)⟩, fun hp => absurd hp (by omega)⟩, grown_refl _ _⟩)
  | some ad =>
    refine wpList_append_own W hgd s x 22 ho gs 23 i0 (.int .u32 0) 1 4 Try.underlying22 hi hz0 hz1 hz2 rfl (by decide) _ 0 [] hs hown ad m c ((List.range m).map (uV X)) hx (by simp) ?c1 ?c2 ?c3 ?c4 ?c5 ?_
    case c1 =>
      intro j u h
      have hj : j < m := by
        by_cases e : j < m
        · exact e
        · rw [List.getElem?_eq_none (by simp; omega)] at h; cases h
      obtain ⟨b', off, e, hlt, hc⟩ := hX.at (by omega)
      cases e
      rw [Go.WideShapes.add_plain, hc j hj]
      simpa [hj] using h
    case c2 => intro u hu; obtain ⟨i, _, rfl⟩ := List.mem_map.1 hu; rfl
    case c3 => unfold maxLen; omega
    case c4 => omega
    case c5 => omega
    intro v' w1 hown1 hgr _
    refine h v' w1 ⟨?_, hgr⟩
    rw [Nat.zero_add, List.nil_append] at hown1
    exact SlAt.of_own (V := uV X) hown1 (fun i hi => by simp [hi])
end Go.Proofs.Ytdelcndaogjngaa
