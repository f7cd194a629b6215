/- A range over an iterator of known rounds, which holds blocks of its own that the body must leave alone. The caller's invariant knows which round it is (x), so what it is handed, and which blocks (Fb) are the iterator's. -/
import Derived.Test.YtdlpgoackmgdkaaGreatDoorCls
import Derived.RangeFuncNested
import Derived.RangeFuncBound
import Derived.RangeFuncCalls
import Derived.RangeFuncLeaves
import Derived.Shelf.Abstract
import Derived.Shelf.RegionOpen
import Derived.OwnWalkIn
import Derived.TacticsInMore
import Derived.LoopNIn
import Derived.LoopIn
import Derived.Test.YtdlpgoackmgdkaaGreatDoorZIsaA
import Derived.Test.YtdlpgoackmgdkaaGreatDoorZIsaB
namespace Go.Proofs.YtdlpgoackmgdkaaGreatDoor
open Go.RowKit Go.Shelf
set_option linter.unusedVariables false
variable {F : Fence} {n : Nat} {P : Program}
/-- The blocks Fb lie as they lay. -/
def KeepF (Fb : Nat → Prop) (A B : World) : Prop := ∀ b o, Fb b → A.heap[b]? = some o → B.heap[b]? = some o
theorem KeepF.trans {Fb : Nat → Prop} {A B C : World} (h1 : KeepF Fb A B) (h2 : KeepF Fb B C) : KeepF Fb A C := fun b o hb h => h2 b o hb (h1 b o hb h)
theorem KeepF.below {Fb : Nat → Prop} {A B : World} (h : Below A.heap.size A B) : KeepF Fb A B := fun b o _ hk => kept hk h
/-- The blocks that may be the iterator's: known ones (Kb), or new ones since W. -/
def FbOk (Kb Fb : Nat → Prop) (W A : World) : Prop := ∀ b, Fb b → b < A.heap.size ∧ (Kb b ∨ W.heap.size ≤ b)
/-- With what was made between A and B. -/
def extF (Fb : Nat → Prop) (A B : World) : Nat → Prop := fun b => Fb b ∨ (A.heap.size ≤ b ∧ b < B.heap.size)
/-- The iterator's contract: N rounds, the x-th handed 'encs x'. -/
def SeqC (F : Fence) (n : Nat) (P : Program) (g : Nat) (lb : Array Value) (encs : Nat → Array Value) (Kb : Nat → Prop) (N : Nat) (Z : World → Prop) (w : World) : Prop :=
  ∀ (l : Nat) (J Jx : Nat → (Nat → Prop) → World → Prop) (W : World), Below w.heap.size w W → (∀ s Fb A B, J s Fb A → Below A.heap.size A B → J s (extF Fb A B) B) → (∀ s Fb A B, Jx s Fb A → Below A.heap.size A B → Jx s Fb B) → (∀ s Fb A, Jx s Fb A → Z A) →
    J 0 Kb W →
    (∀ x Fb W1, x < N → FbOk Kb Fb W W1 → J x Fb W1 → YieldAt F (n - 1) P l (encs x) W1 fun e W' => (e = .returned (.bool true) ∧ J (x + 1) Fb W' ∧ KeepF Fb W1 W' ∧ W1.heap.size ≤ W'.heap.size) ∨ (e = .returned (.bool false) ∧ Jx (x + 1) Fb W')) →
    CallsIn F n P g (#[.func (.yield l) #[] #[]] ++ lb) W fun e W' => (∃ v, e = .returned v) ∧ ((∃ Fb, J N Fb W') ∨ (∃ x Fb, 0 < x ∧ x ≤ N ∧ Jx x Fb W'))
theorem rangeFunc_d {g : Operand} {ps : Array Tmp} {assign body : Code} {Q : Exit → Act → World → Prop} {a : Act} {w : World}
    (hro : F.round = none) (h1 : 1 ≤ n) {gf : Nat} {lb : Array Value} (hg : a.eval g = .func (.func gf) #[] lb) (hFg : F.fn gf) (eg : ∀ args w, (callFunc gf args).run P w = .ok (.enter gf args) w)
    {encs : Nat → Array Value} {Kb : Nat → Prop} {N : Nat} (hKb : ∀ b, Kb b → b < w.heap.size) {Z : World → Prop} (hseq : SeqC F (n - 1) P gf lb encs Kb N Z w) (hps : ∀ x, (encs x).size = ps.size)
    (I : Nat → (Nat → Prop) → World → Prop) (Ix : Code → Nat → (Nat → Prop) → World → Prop) (hI : ∀ Fb, OwnFrom w.heap.size (fun s => I s Fb)) (hIx : ∀ c Fb, OwnFrom w.heap.size (fun s => Ix c s Fb)) (hIk : ∀ s Fb A B, I s Fb A → Below A.heap.size A B → I s (extF Fb A B) B) (hIxk : ∀ c s Fb A B, Ix c s Fb A → Below A.heap.size A B → Ix c s Fb B)
    (hIxZ : ∀ c s Fb A, Ix c s Fb A → Z A) (hIk' : ∀ s Fb A B, I s Fb A → Below A.heap.size A B → I s Fb B)
    (h0 : ∀ A, Below w.heap.size w A → I 0 Kb A) (Ac : Nat → Act → World → Prop) (hAo : ∀ x a', OwnFrom w.heap.size (fun (_ : Nat) W => Ac x a' W))
    (hassign : ∀ (l x : Nat) (W : World) (K : Act → World → Prop), x < N → (∀ a' W', Below W.heap.size W W' → Ac x a' W' → K a' W') → assign.wpIn (F.inRound l) (n - 1 - 1) P (Exit.then K (fun _ _ _ => False)) { tmps := (ps.zip (encs x)).foldl (fun t (p, v) => t.setIfInBounds p v) a.tmps, defers := [] } W)
    (hbody : ∀ (l x : Nat) (Fb : Nat → Prop) (a' : Act) (W : World), x < N → w.heap.size ≤ l → (∀ b, Fb b → b < W.heap.size ∧ (Kb b ∨ w.heap.size + 2 ≤ b)) → I x Fb W → Ac x a' W → body.wpIn (F.inRound l) (n - 1 - 1) P (ownPostG (α := Unit) w.heap.size (fun A B => KeepF Fb A B ∧ A.heap.size ≤ B.heap.size) (fun _ => I (x + 1) Fb) (fun c _ => Ix c (x + 1) Fb) [] W) a' W)
    (hdone : ∀ (D : Nat) (Fb : Nat → Prop) (W : World), w.heap.size ≤ D → I N Fb W → W.heap[D]? = some (.deferred (some [])) → Q .normal { a with defers := { target := .collected D, args := #[] } :: a.defers } W)
    (hstop : ∀ (D : Nat) (c : Code) (x : Nat) (Fb : Nat → Prop) (W : World), w.heap.size ≤ D → 0 < x → x ≤ N → Ix c x Fb W → W.heap[D]? = some (.deferred (some [])) → c.wpIn F n P Q { a with defers := { target := .collected D, args := #[] } :: a.defers } W) :
    (Code.rangeFunc g ps assign body).wpIn F n P Q a w := by
  refine wpIn_rangeFunc fun fn hfn => ?_
  rw [hro]
  -- the loop's record in each of its states; the two blocks of book-keeping are D = w.heap.size and D + 1
  obtain ⟨rc, hrc⟩ : ∃ rc : LoopState → Option Code → Loop, rc = fun st pe => { state := st, pending := pe, fn, tmps := a.tmps, params := ps, assign, body, defers := w.heap.size } := ⟨_, rfl⟩
  obtain ⟨V, hV⟩ : ∃ V, (w.alloc (.deferred (some []))).alloc (.loop (rc .ready none)) = V := ⟨_, rfl⟩
  have hVl : V.heap[w.heap.size + 1]? = some (.loop (rc .ready none)) := by
    have := World.alloc_heap_new (w.alloc (.deferred (some []))) (.loop (rc .ready none)); rw [World.size_alloc] at this; rw [← hV]; exact this
  have hVd : V.heap[w.heap.size]? = some (.deferred (some [])) := by rw [← hV]; exact (Below.heap_alloc _ _ _ (by simp)).trans (World.alloc_heap_new w _)
  have hVs : V.heap.size = w.heap.size + 2 := by rw [← hV, World.size_alloc, World.size_alloc]
  have hVB : Below w.heap.size w V := by rw [← hV]; exact ((Below.refl _ w).alloc (Nat.le_refl _) _).alloc (by simp) _
  refine ⟨w.heap.size + 1, [{ target := .collected w.heap.size, args := #[] }], V, { target := .fn (.func gf) lb, args := #[.func (.yield (w.heap.size + 1)) #[] #[]] }, V, gf, #[.func (.yield (w.heap.size + 1)) #[] #[]] ++ lb, V, ?_, ?_, ?_, ?_, fun _ => h1, ?_⟩
  · rw [← hV, hrc]; exact run_enterLoop_outer _ _ _ _ _
  · simp only [resolve, hg]; simp [go_sem]
  · intro f' hf'; simp [Target.leads] at hf'; subst hf'; exact hFg
  · simp [invoke, go_sem, eg]
  · refine (hseq (w.heap.size + 1) (fun pre Fb W => I pre Fb W ∧ W.heap[w.heap.size + 1]? = some (.loop (rc .ready none)) ∧ W.heap[w.heap.size]? = some (.deferred (some [])))
      (fun pre Fb W => ∃ c, Ix c pre Fb W ∧ W.heap[w.heap.size + 1]? = some (.loop (rc .done (some c))) ∧ W.heap[w.heap.size]? = some (.deferred (some []))) V hVB
      (fun s Fb A B hs hg' => ⟨hIk s Fb A B hs.1 hg', kept hs.2.1 hg', kept hs.2.2 hg'⟩)
      (fun s Fb A B hs hg' => by obtain ⟨c, k1, k2, k3⟩ := hs; exact ⟨c, hIxk c s Fb A B k1 hg', kept k2 hg', kept k3 hg'⟩)
      (fun s Fb A hs => by obtain ⟨c, k1, _⟩ := hs; exact hIxZ c s Fb A k1)
      ⟨h0 V hVB, hVl, hVd⟩ ?_).mono ?_
    · rintro x Fb W hx hFb ⟨hi, hl, hk⟩
      have hFb' : ∀ b, Fb b → b < W.heap.size ∧ (Kb b ∨ w.heap.size + 2 ≤ b) := fun b hb => by have := hFb b hb; rw [hVs] at this; exact this
      have hne : ∀ b, Fb b → b ≠ w.heap.size + 1 := fun b hb e => by have := hFb' b hb; rcases this.2 with h | h; (have := hKb b h; omega); omega
      have hput : ∀ (A : World) (o' : Obj), KeepF Fb A (A.putObj (w.heap.size + 1) o') ∧ A.heap.size ≤ (A.putObj (w.heap.size + 1) o').heap.size := fun A o' => ⟨fun b o hb h => (World.putObj_heap_other (hne b hb)).trans h, by simp [World.putObj]⟩
      have hlt : w.heap.size + 1 < W.heap.size := (Array.getElem?_eq_some_iff.1 hl).1
      have hy := run_yield (P := P) (args := encs x) hl (by rw [hrc]; exact hps x)
      rw [hrc] at hy
      refine ⟨fn, _, assign, body, hy, roundIn_of_wpIn hfn (hassign _ x W _ hx fun a' W0 hW0 hA0 => ?_)⟩
      clear hy
      have hWs := hW0.size
      have hW0k : KeepF Fb W W0 := KeepF.below hW0
      have hFb0 := hFb'
      have hi0 := hIk' _ _ _ _ hi hW0
      have hl0 := kept hl hW0
      have hk0 := kept hk hW0
      have hFb1 : ∀ b, Fb b → b < W0.heap.size ∧ (Kb b ∨ w.heap.size + 2 ≤ b) := fun b hb => ⟨Nat.lt_of_lt_of_le (hFb0 b hb).1 hWs, (hFb0 b hb).2⟩
      have hlt0 : w.heap.size + 1 < W0.heap.size := (Array.getElem?_eq_some_iff.1 hl0).1
      clear hFb0 hi hl hk hFb hFb' hlt
      have hi := hi0; have hl := hl0; have hk := hk0; have hlt := hlt0; have hFb' := hFb1
      refine ⟨_, run_beginRound hl (by rw [hrc]), ?_⟩
      have b1 : (W0.putObj (w.heap.size + 1) (.loop { rc .ready none with state := .busy })).heap[w.heap.size + 1]? = some (.loop { rc .ready none with state := .busy }) := World.putObj_heap_same hlt
      have b2 : (W0.putObj (w.heap.size + 1) (.loop { rc .ready none with state := .busy })).heap[w.heap.size]? = some (.deferred (some [])) := (World.putObj_heap_other (by omega)).trans hk
      have b3 := hput W0 (.loop { rc .ready none with state := .busy })
      refine wpIn_mono (hbody _ x Fb a' _ hx (by omega) (fun b hb => ⟨Nat.lt_of_lt_of_le (hFb' b hb).1 b3.2, (hFb' b hb).2⟩) ((hI Fb).putObj _ hi (by omega) hl rfl) ((hAo x a').putObj (s := 0) _ hA0 (by omega) hl rfl)) ?_
      have fin : ∀ (j : Option Code) (U : World), KeepsFrom w.heap.size (W0.putObj (w.heap.size + 1) (.loop { rc .ready none with state := .busy })) U →
          (Instr.endRound (w.heap.size + 1) j).run P U = .ok (.bool j.isNone) (U.putObj (w.heap.size + 1) (.loop (rc (if j.isNone then .ready else .done) j))) ∧ U.heap[w.heap.size + 1]? = some (.loop { rc .ready none with state := .busy }) ∧
          (U.putObj (w.heap.size + 1) (.loop (rc (if j.isNone then .ready else .done) j))).heap[w.heap.size + 1]? = some (.loop (rc (if j.isNone then .ready else .done) j)) ∧
          (U.putObj (w.heap.size + 1) (.loop (rc (if j.isNone then .ready else .done) j))).heap[w.heap.size]? = some (.deferred (some [])) := fun j U hu => by
        have u1 := hu.same _ _ (by omega) b1 rfl
        have u2 := run_endRound (P := P) j u1
        rw [hrc] at u2 ⊢
        exact ⟨u2, by rw [hrc] at u1; exact u1, World.putObj_heap_same (Array.getElem?_eq_some_iff.1 u1).1, (World.putObj_heap_other (by omega)).trans (hu.same _ _ (Nat.le_refl _) b2 rfl)⟩
      have left : ∀ (c : Code) (U : World), KeepsFrom w.heap.size (W0.putObj (w.heap.size + 1) (.loop { rc .ready none with state := .busy })) U → Ix c (x + 1) Fb U → ∃ v w', (Instr.endRound (w.heap.size + 1) (some c)).run P U = .ok v w' ∧
          ((Ending.returned v = .returned (.bool true) ∧ (I (x + 1) Fb w' ∧ w'.heap[w.heap.size + 1]? = some (.loop (rc .ready none)) ∧ w'.heap[w.heap.size]? = some (.deferred (some []))) ∧ KeepF Fb W w' ∧ W.heap.size ≤ w'.heap.size) ∨
            (Ending.returned v = .returned (.bool false) ∧ ∃ c, Ix c (x + 1) Fb w' ∧ w'.heap[w.heap.size + 1]? = some (.loop (rc .done (some c))) ∧ w'.heap[w.heap.size]? = some (.deferred (some [])))) := fun c U hu hx => by
        obtain ⟨r1, r2, r3, r4⟩ := fin (some c) U hu
        exact ⟨_, _, r1, .inr ⟨rfl, c, (hIx c Fb).putObj _ hx (by omega) r2 rfl, r3, r4⟩⟩
      rintro e a3 U hp
      cases e with
      | normal =>
        obtain ⟨p1, p2, p3⟩ := hp
        obtain ⟨r1, r2, r3, r4⟩ := fin none U p1
        exact ⟨_, _, r1, .inl ⟨rfl, ⟨(hI Fb).putObj _ p3 (by omega) r2 rfl, r3, r4⟩, ((hW0k.trans b3.1).trans p2.1).trans (hput _ _).1, Nat.le_trans (Nat.le_trans hWs (Nat.le_trans b3.2 p2.2)) (hput _ _).2⟩⟩
      | ret => exact left .ret U hp.1 hp.2
      | exit id => exact left (.exit id) U hp.1 hp.2
      | goto t => exact left (.goto t) U hp.1 hp.2
      | panic ch => exact hp.elim
      | outgrown => exact hp.elim
    · rintro e U ⟨⟨v, rfl⟩, (⟨Fb, hi, hl, hk⟩ | ⟨x, Fb, hx0, hxN, c, hi, hl, hk⟩)⟩
      · exact ⟨none, _, by have := run_endLoop (P := P) hl (by rw [hrc]; simp); rw [hrc] at this; exact this, hdone _ Fb _ (Nat.le_refl _) ((hI Fb).putObj _ hi (by omega) hl rfl) ((World.putObj_heap_other (by omega)).trans hk)⟩
      · exact ⟨some c, _, by have := run_endLoop (P := P) hl (by rw [hrc]; simp); rw [hrc] at this; exact this, hstop _ c x Fb _ (Nat.le_refl _) hx0 hxN ((hIx c Fb).putObj _ hi (by omega) hl rfl) ((World.putObj_heap_other (by omega)).trans hk)⟩
end Go.Proofs.YtdlpgoackmgdkaaGreatDoor
