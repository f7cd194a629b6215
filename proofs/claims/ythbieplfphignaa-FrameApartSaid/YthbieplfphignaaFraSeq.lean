/- A range over an iterator that itself never ends and writes one cell of its own: the body must stop it. The kit's law for ranges over functions hands the iterator no word on how many rounds there can be; here the caller's invariant bounds them, and abides the iterator's writes to its block. -/
import Derived.Test.YthbieplfphignaaFraFun
namespace Go.Proofs.Ythbieplfphignaa
open Go.RowKit Go.Shelf
set_option linter.unusedVariables false
variable {F : Fence} {n : Nat} {P : Program}
/-- The iterator's contract: block kb is its own; fewer than N have come whenever the caller's invariant holds. -/
def SeqB (F : Fence) (n : Nat) (P : Program) (g : Nat) (lb : Array Value) (encs : Nat → Array Value) (Kp : World → World → Prop) (kb : Nat) (Sd : Nat → Prop) (Y : Prop) (N : Nat) (w : World) : Prop :=
  ∀ (l : Nat) (J Jx : Nat → World → Prop) (W : World), Below w.heap.size w W → (∀ s A B, J s A → A.grownBy B (some kb) → J s B) → (∀ s A B, Jx s A → A.grownBy B (some kb) → Jx s B) → (∀ s A, J s A → s < N) →
    (∀ x W1, Y → J x W1 → YieldAt F (n - 1) P l (encs x) W1 fun e W' => (e = .returned (.bool true) ∧ J (x + 1) W' ∧ Kp W1 W') ∨ (e = .returned (.bool false) ∧ Jx (x + 1) W')) →
    J 0 W → CallsIn F n P g (#[.func (.yield l) #[] #[]] ++ lb) W fun e W' => (∃ v, e = .returned v) ∧ ((∃ x, Sd x ∧ J x W') ∨ (∃ x, x ≤ N ∧ Jx x W'))
theorem grown_keep {A B : World} {k kb : Nat} {o : Obj} (hg : A.grownBy B (some kb)) (hne : k ≠ kb) (h : A.heap[k]? = some o) : B.heap[k]? = some o :=
  (hg.block k (Array.getElem?_eq_some_iff.1 h).1 (fun e => hne (by cases e; rfl))).trans h
theorem rangeFunc_b {g : Operand} {ps : Array Tmp} {assign body : Code} {Q : Exit → Act → World → Prop} {a : Act} {w : World}
    (hro : F.round = none) (h1 : 1 ≤ n) {gf : Nat} {lb : Array Value} (hg : a.eval g = .func (.func gf) #[] lb) (hFg : F.fn gf) (eg : ∀ args w, (callFunc gf args).run P w = .ok (.enter gf args) w)
    {encs : Nat → Array Value} {Kp : World → World → Prop} {kb N : Nat} {Sd : Nat → Prop} {Y : Prop} (hkb : kb < w.heap.size) (hseq : SeqB F (n - 1) P gf lb encs Kp kb Sd Y N w)
    (hKt : ∀ {A B C : World}, Kp A B → Kp B C → Kp A C) (hKb : ∀ (W : World) (l : Nat) (o o' : Obj), w.heap.size ≤ l → W.heap[l]? = some o → o.isCells = false → o.isWalk = false → Kp W (W.putObj l o')) (hps : ∀ x, (encs x).size = ps.size)
    (I : Nat → World → Prop) (Ix : Code → Nat → World → Prop) (hI : OwnFrom w.heap.size I) (hIx : ∀ c, OwnFrom w.heap.size (Ix c)) (hIk : ∀ s A B, I s A → A.grownBy B (some kb) → I s B) (hIxk : ∀ c s A B, Ix c s A → A.grownBy B (some kb) → Ix c s B)
    (hIN : ∀ s A, I s A → s < N) (h0 : I 0 w) (a₁ : Nat → Act)
    (hassign : ∀ (l x : Nat) (W : World) (K : Act → World → Prop), K (a₁ x) W → assign.wpIn (F.inRound l) (n - 1 - 1) P (Exit.then K (fun _ _ _ => False)) { tmps := (ps.zip (encs x)).foldl (fun t (p, v) => t.setIfInBounds p v) a.tmps, defers := [] } W)
    (hbody : ∀ (l x : Nat) (W : World), Y → w.heap.size ≤ l → I x W → body.wpIn (F.inRound l) (n - 1 - 1) P (ownPostG (α := Unit) w.heap.size Kp (fun _ => I (x + 1)) (fun c _ => Ix c (x + 1)) [] W) (a₁ x) W)
    (hdone : ∀ (D xs : Nat) (W : World), w.heap.size ≤ D → Sd xs → I xs W → W.heap[D]? = some (.deferred (some [])) → Q .normal { a with defers := { target := .collected D, args := #[] } :: a.defers } W)
    (hstop : ∀ (D : Nat) (c : Code) (pre : Nat) (W : World), w.heap.size ≤ D → pre ≤ N → Ix c pre W → W.heap[D]? = some (.deferred (some [])) → c.wpIn F n P Q { a with defers := { target := .collected D, args := #[] } :: a.defers } W) :
    (Code.rangeFunc g ps assign body).wpIn F n P Q a w := by
  refine wpIn_rangeFunc fun fn hfn => ?_
  rw [hro]
  -- the loop's record in each of its states; the two blocks of book-keeping are D = w.heap.size and D + 1
  obtain ⟨rc, hrc⟩ : ∃ rc : LoopState → Option Code → Loop, rc = fun st pe => { state := st, pending := pe, fn, tmps := a.tmps, params := ps, assign, body, defers := w.heap.size } := ⟨_, rfl⟩
  obtain ⟨V, hV⟩ : ∃ V, (w.alloc (.deferred (some []))).alloc (.loop (rc .ready none)) = V := ⟨_, rfl⟩
  have hVl : V.heap[w.heap.size + 1]? = some (.loop (rc .ready none)) := by
    have := World.alloc_heap_new (w.alloc (.deferred (some []))) (.loop (rc .ready none)); rw [World.size_alloc] at this; rw [← hV]; exact this
  have hVd : V.heap[w.heap.size]? = some (.deferred (some [])) := by rw [← hV]; exact (Below.heap_alloc _ _ _ (by simp)).trans (World.alloc_heap_new w _)
  have hVI : I 0 V := by rw [← hV]; exact hI.alloc _ (hI.alloc _ h0)
  have hVB : Below w.heap.size w V := by rw [← hV]; exact ((Below.refl _ w).alloc (Nat.le_refl _) _).alloc (by simp) _
  refine ⟨w.heap.size + 1, [{ target := .collected w.heap.size, args := #[] }], V, { target := .fn (.func gf) lb, args := #[.func (.yield (w.heap.size + 1)) #[] #[]] }, V, gf, #[.func (.yield (w.heap.size + 1)) #[] #[]] ++ lb, V, ?_, ?_, ?_, ?_, fun _ => h1, ?_⟩
  · rw [← hV, hrc]; exact run_enterLoop_outer _ _ _ _ _
  · simp only [resolve, hg]; simp [go_sem]
  · intro f' hf'; simp [Target.leads] at hf'; subst hf'; exact hFg
  · simp [invoke, go_sem, eg]
  · refine (hseq (w.heap.size + 1) (fun pre W => I pre W ∧ W.heap[w.heap.size + 1]? = some (.loop (rc .ready none)) ∧ W.heap[w.heap.size]? = some (.deferred (some [])))
      (fun pre W => ∃ c, Ix c pre W ∧ W.heap[w.heap.size + 1]? = some (.loop (rc .done (some c))) ∧ W.heap[w.heap.size]? = some (.deferred (some []))) V hVB
      (fun s A B hs hg' => ⟨hIk s A B hs.1 hg', grown_keep hg' (by omega) hs.2.1, grown_keep hg' (by omega) hs.2.2⟩)
      (fun s A B hs hg' => by obtain ⟨c, k1, k2, k3⟩ := hs; exact ⟨c, hIxk c s A B k1 hg', grown_keep hg' (by omega) k2, grown_keep hg' (by omega) k3⟩)
      (fun s A hs => hIN s A hs.1) ?_ ⟨hVI, hVl, hVd⟩).mono ?_
    · rintro x W hyy ⟨hi, hl, hk⟩
      have hlt : w.heap.size + 1 < W.heap.size := (Array.getElem?_eq_some_iff.1 hl).1
      have hy := run_yield (P := P) (args := encs x) hl (by rw [hrc]; exact hps x)
      rw [hrc] at hy
      refine ⟨fn, _, assign, body, hy, roundIn_of_wpIn hfn (hassign _ x W _ ⟨_, run_beginRound hl (by rw [hrc]), ?_⟩)⟩
      clear hy
      have b1 : (W.putObj (w.heap.size + 1) (.loop { rc .ready none with state := .busy })).heap[w.heap.size + 1]? = some (.loop { rc .ready none with state := .busy }) := World.putObj_heap_same hlt
      have b2 : (W.putObj (w.heap.size + 1) (.loop { rc .ready none with state := .busy })).heap[w.heap.size]? = some (.deferred (some [])) := (World.putObj_heap_other (by omega)).trans hk
      have b3 : Kp W (W.putObj (w.heap.size + 1) (.loop { rc .ready none with state := .busy })) := hKb _ _ _ _ (by omega) hl rfl rfl
      refine wpIn_mono (hbody _ x _ hyy (by omega) (hI.putObj _ hi (by omega) hl rfl)) ?_
      have fin : ∀ (j : Option Code) (U : World), KeepsFrom w.heap.size (W.putObj (w.heap.size + 1) (.loop { rc .ready none with state := .busy })) U →
          (Instr.endRound (w.heap.size + 1) j).run P U = .ok (.bool j.isNone) (U.putObj (w.heap.size + 1) (.loop (rc (if j.isNone then .ready else .done) j))) ∧ U.heap[w.heap.size + 1]? = some (.loop { rc .ready none with state := .busy }) ∧
          (U.putObj (w.heap.size + 1) (.loop (rc (if j.isNone then .ready else .done) j))).heap[w.heap.size + 1]? = some (.loop (rc (if j.isNone then .ready else .done) j)) ∧
          (U.putObj (w.heap.size + 1) (.loop (rc (if j.isNone then .ready else .done) j))).heap[w.heap.size]? = some (.deferred (some [])) := fun j U hu => by
        have u1 := hu.same _ _ (by omega) b1 rfl
        have u2 := run_endRound (P := P) j u1
        rw [hrc] at u2 ⊢
        exact ⟨u2, by rw [hrc] at u1; exact u1, World.putObj_heap_same (Array.getElem?_eq_some_iff.1 u1).1, (World.putObj_heap_other (by omega)).trans (hu.same _ _ (Nat.le_refl _) b2 rfl)⟩
      have left : ∀ (c : Code) (U : World), KeepsFrom w.heap.size (W.putObj (w.heap.size + 1) (.loop { rc .ready none with state := .busy })) U → Ix c (x + 1) U → ∃ v w', (Instr.endRound (w.heap.size + 1) (some c)).run P U = .ok v w' ∧
          ((Ending.returned v = .returned (.bool true) ∧ (I (x + 1) w' ∧ w'.heap[w.heap.size + 1]? = some (.loop (rc .ready none)) ∧ w'.heap[w.heap.size]? = some (.deferred (some []))) ∧ Kp W w') ∨
            (Ending.returned v = .returned (.bool false) ∧ ∃ c, Ix c (x + 1) w' ∧ w'.heap[w.heap.size + 1]? = some (.loop (rc .done (some c))) ∧ w'.heap[w.heap.size]? = some (.deferred (some [])))) := fun c U hu hx => by
        obtain ⟨r1, r2, r3, r4⟩ := fin (some c) U hu
        exact ⟨_, _, r1, .inr ⟨rfl, c, (hIx c).putObj _ hx (by omega) r2 rfl, r3, r4⟩⟩
      rintro e a3 U hp
      cases e with
      | normal =>
        obtain ⟨p1, p2, p3⟩ := hp
        obtain ⟨r1, r2, r3, r4⟩ := fin none U p1
        exact ⟨_, _, r1, .inl ⟨rfl, ⟨hI.putObj _ p3 (by omega) r2 rfl, r3, r4⟩, hKt (hKt b3 p2) (hKb _ _ _ _ (by omega) r2 rfl rfl)⟩⟩
      | ret => exact left .ret U hp.1 hp.2
      | exit id => exact left (.exit id) U hp.1 hp.2
      | goto t => exact left (.goto t) U hp.1 hp.2
      | panic ch => exact hp.elim
      | outgrown => exact hp.elim
    · rintro e U ⟨⟨v, rfl⟩, (⟨xs, hS, hi, hl, hk⟩ | ⟨pre, hSp, c, hi, hl, hk⟩)⟩
      · exact ⟨none, _, by have := run_endLoop (P := P) hl (by rw [hrc]; simp); rw [hrc] at this; exact this, hdone _ xs _ (Nat.le_refl _) hS (hI.putObj _ hi (by omega) hl rfl) ((World.putObj_heap_other (by omega)).trans hk)⟩
      · exact ⟨some c, _, by have := run_endLoop (P := P) hl (by rw [hrc]; simp); rw [hrc] at this; exact this, hstop _ c pre _ (Nat.le_refl _) hSp ((hIx c).putObj _ hi (by omega) hl rfl) ((World.putObj_heap_other (by omega)).trans hk)⟩
/-- A region that draws its order, whose operations yield the same in every world of a class and stay in it: the class is given as a function's image. Also within a round. -/
theorem wpIn_region_cls {F : Fence} {n : Nat} {P : Program} {id : Nat} {Q : Exit → Act → World → Prop} {a : Act} {w : World} {l : List Oper} {U : Type} (f : U → World) (hd : noDefer l = true) (hm : P.follows .mixedOrders = true) (hB : Region.lexB .any l.toArray = true) (h0 : ∃ u, w.drew = f u)
    (h : wpQuietIn F n P l.toArray (fun w' => ∃ u, w' = f u) (fun a' => ∀ w', (∃ u, w' = f u) → Q .normal a' w') l a) : (Code.region id l.toArray true).wpIn F n P Q a w := by
  simp only [Region.lexB, Bool.and_eq_true] at hB
  refine wpIn_region_any hm (wpAnyIn_of_quiet_r (Q := fun a' => ∀ w', (∃ u, w' = f u) → Q .normal a' w') hd (fun _ w' hw' h => h w' hw') _ _ _ _ h0 ?_)
  have := wpAnyQIn_lex (F := F) (n := n) (C := fun w' => ∃ u, w' = f u) (md := .any) hB.1 l 0 (Array.replicate l.toArray.size false) a (by simp) (by simpa using hB.2) h
  simpa using this
/-- A class of worlds under one name. -/
theorem class_of (p : World → Prop) {W : World} (h : p W) : ∃ (U : Type) (f : U → World), Nonempty U ∧ (∀ u, p (f u)) ∧ ∀ V, p V → ∃ u, V = f u := ⟨{V : World // p V}, Subtype.val, ⟨⟨W, h⟩⟩, fun u => u.property, fun V h => ⟨⟨V, h⟩, rfl⟩⟩
theorem keepsFrom_below {B : Nat} {W W' : World} (h : Below W.heap.size W W') : KeepsFrom B W W' := ⟨h.size, fun k o _ hk _ => (h.block k (Array.getElem?_eq_some_iff.1 hk).1).trans hk⟩
end Go.Proofs.Ythbieplfphignaa
