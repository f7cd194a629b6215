/- Regions that draw their order, within a fence: what holds of the world behind each operation (S), and an operation that yields the same in every such world may be taken first. -/
import Derived.Test.YtdlpgoackmgdkaaGreatDoorRows
import Derived.OrdersIn
import Derived.OrdersHeld
import Derived.WalkKit
namespace Go.Proofs.YtdlpgoackmgdkaaGreatDoor
open Go.RowKit
set_option linter.unusedVariables false
variable {F : Fence} {n : Nat} {P : Program} {ops : Array Oper} {Q : Exit → Act → World → Prop} {md : Region.Mode} {S : World → Prop}
/-- In every world that meets S it yields v, and it is about to make no call. -/
def YieldsF (P : Program) (ops : Array Oper) (S : World → Prop) (o : Oper) (v : Value) (a : Act) : Prop := YieldsIf P ops S o v a ∧ ∀ w, o.about P w a.eval = none
theorem YieldsF.wpOpIn {i : Nat} {o : Oper} {v : Value} {a : Act} (hro : F.round = none) (hi : ops[i]? = some o) (hy : YieldsF P ops S o v a)
    {K : Act → World → Prop} {w : World} (hS : S w) (h : K (a.put o.dst v) w) : wpOpIn F n P ops Q i K a w := by
  have hab : ∀ f, o.about P w a.eval = some f → F.fn f := fun f hf => by rw [hy.2 w] at hf; cases hf
  unfold Go.wpOpIn
  simp only [hi]
  rcases hy.1 with ⟨hw, hv⟩ | ⟨hw, rfl⟩
  · simp only [hw, if_true, Oper.wpIn, hro, Oper.semAt_none, hv w hS, Oper.uponIn]; exact ⟨hab, h⟩
  · simp only [hw, Bool.false_eq_true, if_false]; exact ⟨hab, h⟩
theorem YieldsF.of_same {o : Oper} {v : Value} {a a' : Act} (hy : YieldsF P ops S o v a) (he : execOp a'.eval o = execOp a.eval o)
    (hw : Region.wanted o (yielded ops a'.tmps) = Region.wanted o (yielded ops a.tmps)) (hb : ∀ w, o.about P w a'.eval = o.about P w a.eval) : YieldsF P ops S o v a' :=
  ⟨hy.1.of_same he hw, fun w => by rw [hb w]; exact hy.2 w⟩
/-- What an operation comes to, with a value laid in another's temporary ahead of it or behind it; I: what its own temporary and what it defers do not touch. -/
theorem upon_around {I : Act → Prop} {o : Oper} {d : Option Tmp} {v : Value} {K : Act → World → Prop} {a : Act} (hK : ∀ (b : Act) u w, K ((b.put d v).put o.dst u) w → K ((b.put o.dst u).put d v) w) (hI : I a) (hp : ∀ (b : Act) u, I b → I (b.put o.dst u)) (hd : ∀ x, I { a with defers := x :: a.defers })
    (hQ : ∀ c a w, Q (.panic c) (a.put d v) w → Q (.panic c) a w) : ∀ r, o.uponIn F n P (a.put d v) K Q r → o.uponIn F n P a (fun a' w' => I a' ∧ K (a'.put d v) w') Q r := by
  have val : ∀ u w, K ((a.put d v).put o.dst u) w → I (a.put o.dst u) ∧ K ((a.put o.dst u).put d v) w := fun u w h => ⟨hp a u hI, hK a u w h⟩
  have ends : ∀ (e : Ending) (w : World), (match e with | .returned u => K ((a.put d v).put o.dst u) w | .panicked c => Q (.panic c) (a.put d v) w | .outgrown => LetsOut Q) → (match e with | .returned u => I (a.put o.dst u) ∧ K ((a.put o.dst u).put d v) w | .panicked c => Q (.panic c) a w | .outgrown => LetsOut Q) := fun e w h => by
    match e, h with
    | .returned u, h => exact val u w h
    | .panicked c, h => exact hQ c a w h
    | .outgrown, h => exact h
  rintro (⟨x, w⟩ | ⟨x, w⟩) h
  · match x, h with
    | .value u, h => exact val u w h
    | .skip, h => exact val undef w h
    | .defer t, h => exact ⟨hp _ _ (hd t), hK _ _ _ (by rw [← Act.put_defers]; exact h)⟩
    | .enter f args, h => exact ⟨h.1, h.2.mono fun e w' he => by
        have := ends e w' (by cases e <;> exact he)
        cases e <;> exact this⟩
    | .row r args, h => exact ⟨h.1, RowsIn.mono h.2 fun u w' hu => val u w' hu⟩
    | .round l f t sg bd, h => exact ⟨h.1, RoundIn.mono h.2 fun e w' he => by
        have := ends e w' (by cases e <;> exact he)
        cases e <;> exact this⟩
  · match x, h with
    | .panic u, h => exact hQ _ _ _ h
theorem wpOpIn_putF {j : Nat} {oi oj : Oper} {v : Value} (hro : F.round = none) (hj : ops[j]? = some oj) (hap : oi.apart ops oj = true)
    (hsi : ∀ cs b, oi.op ≠ .select cs b) (hsj : ∀ cs b, oj.op ≠ .select cs b)
    (hQ : ∀ c a w, Q (.panic c) (a.put oi.dst v) w → Q (.panic c) a w) {K : Act → World → Prop} {a : Act} {w : World}
    (hy : YieldsF P ops S oi v a) (h : wpOpIn F n P ops Q j K (a.put oi.dst v) w) :
    wpOpIn F n P ops Q j (fun a' w' => YieldsF P ops S oi v a' ∧ K (a'.put oi.dst v) w') a w := by
  obtain ⟨far, two, off⟩ := Oper.apart_spec hap
  have hp : ∀ (b : Act) u, YieldsF P ops S oi v b → YieldsF P ops S oi v (b.put oj.dst u) := fun b u hb => hb.of_same (execOp_put oi hsi b oj.dst u off) (wanted_put oi b oj.dst u off) (fun x => about_put oi x b oj.dst u off)
  have hK : ∀ (b : Act) u x, K ((b.put oi.dst v).put oj.dst u) x → K ((b.put oj.dst u).put oi.dst v) x := fun b u x hx => by rw [← Act.put_comm b v u two]; exact hx
  unfold Go.wpOpIn at h ⊢
  simp only [hj, wanted_put oj a oi.dst v far, about_put oj w a oi.dst v far] at h ⊢
  by_cases hw : Region.wanted oj (yielded ops a.tmps) = true
  · rw [if_pos hw] at h ⊢
    obtain ⟨g1, g2⟩ := h
    rw [about_put oj w a oi.dst v far] at g1
    refine ⟨g1, ?_⟩
    rw [hro, Oper.semAt_none] at g2 ⊢
    rw [execOp_put oj hsj a oi.dst v far] at g2
    exact upon_around hK hy hp (fun x => hy.of_same rfl rfl (fun _ => rfl)) hQ _ g2
  · rw [if_neg hw] at h ⊢
    exact ⟨h.1, hp a _ hy, hK a _ w h.2⟩
/-- Whatever order is picked from here on, and S holds behind each operation. -/
def wpAnyS (F : Fence) (n : Nat) (P : Program) (md : Region.Mode) (ops : Array Oper) (Q : Exit → Act → World → Prop) (S : World → Prop) : Nat → Array Bool → Act → World → Prop
  | 0, listed, a, w => Region.ready md ops listed = [] ∧ Q .normal a w
  | fuel + 1, listed, a, w =>
    (Region.ready md ops listed = [] → Q .normal a w) ∧
    ∀ i ∈ Region.ready md ops listed, wpOpIn F n P ops Q i (fun a' w' => S w' ∧ wpAnyS F n P md ops Q S fuel (listed.setIfInBounds i true) a' w') a w
theorem wpAnyIn_of_S : ∀ (fuel : Nat) (listed : Array Bool) (a : Act) (w : World), wpAnyS F n P md ops Q S fuel listed a w → wpAnyIn F n P md ops Q fuel listed a w
  | 0, _, _, _, h => h
  | fuel + 1, _, _, _, h => ⟨h.1, fun i hi => wpOpIn_mono (fun a' w' h' => wpAnyIn_of_S fuel _ a' w' h'.2) (h.2 i hi)⟩
/-- An operation that is ready, yields the same in every world that meets S, and is apart from all that do not wait for it: taken first. -/
theorem wpAnyS_first {i : Nat} {oi : Oper} {v : Value} (hro : F.round = none) (hi : ops[i]? = some oi) (hsel : ∀ (j : Nat) (o : Oper) cs b, ops[j]? = some o → o.op ≠ .select cs b)
    (hQ : ∀ c a w, Q (.panic c) (a.put oi.dst v) w → Q (.panic c) a w) (fuel : Nat) : ∀ (listed : Array Bool) (a : Act) (w : World),
      (∀ j oj, ops[j]? = some oj → j ≠ i → listed.getD j true = false → (∀ e ∈ oj.after, Region.binds md e = true → e.on ≠ i) → oi.apart ops oj = true) →
      i ∈ Region.ready md ops listed → YieldsF P ops S oi v a → S w →
      wpAnyS F n P md ops Q S fuel (listed.setIfInBounds i true) (a.put oi.dst v) w → wpAnyS F n P md ops Q S (fuel + 1) listed a w := by
  induction fuel with
  | zero =>
    intro listed a w _ hr hy hS H
    refine ⟨fun h => (by rw [h] at hr; cases hr), fun j hj => ?_⟩
    rcases Classical.em (j = i) with rfl | hji
    · exact hy.wpOpIn hro hi hS ⟨hS, H⟩
    · have := ready_mono hj hji
      rw [H.1] at this; cases this
  | succ fuel ih =>
    intro listed a w hfree hr hy hS H
    refine ⟨fun h => (by rw [h] at hr; cases hr), fun j hj => ?_⟩
    rcases Classical.em (j = i) with rfl | hji
    · exact hy.wpOpIn hro hi hS ⟨hS, H⟩
    obtain ⟨hun, oj, hoj, hall⟩ := mem_ready.1 hj
    have waits : ∀ e ∈ oj.after, Region.binds md e = true → e.on ≠ i := by
      rintro e he hb rfl
      have t := hall e he hb
      have f := (mem_ready.1 hr).1
      by_cases hlt : e.on < listed.size
      · simp [hlt] at f t
        rw [f] at t; cases t
      · simp [Array.getElem?_eq_none (Nat.le_of_not_lt hlt)] at t
    refine wpOpIn_mono (fun a' w' hh => ⟨hh.2.1, ih (listed.setIfInBounds j true) a' w' (fun k ok hk hki huk hno => hfree k ok hk hki ?_ hno) (ready_mono hr (Ne.symm hji)) hh.1 hh.2.1 ?_⟩)
      (wpOpIn_putF hro hoj (hfree j oj hoj hji hun waits) (hsel i oi · · hi) (hsel j oj · · hoj) hQ hy (H.2 j (ready_mono hj hji)))
    · rcases Classical.em (j = k) with rfl | hjk
      · exact hun
      · rw [getD_set_ne true hjk] at huk; exact huk
    · rw [Array.setIfInBounds_comm _ _ hji]; exact hh.2.2
theorem wpAnyS_take {i : Nat} {oi : Oper} {v : Value} {fuel : Nat} {listed : Array Bool} {a : Act} {w : World} (hro : F.round = none) (hi : ops[i]? = some oi)
    (hs : Region.noSelect ops = true) (hf : Region.free md ops listed i = true) (hr : (Region.ready md ops listed).contains i = true)
    (hQ : ∀ c a w, Q (.panic c) (a.put oi.dst v) w → Q (.panic c) a w) (hy : YieldsIf P ops S oi v a) (hab : ∀ w, oi.about P w a.eval = none) (hS : S w)
    (h : wpAnyS F n P md ops Q S fuel (listed.setIfInBounds i true) (a.put oi.dst v) w) : wpAnyS F n P md ops Q S (fuel + 1) listed a w :=
  wpAnyS_first hro hi (Region.noSelect_spec hs) hQ fuel listed a w (Region.free_spec hi hf) (by simpa using hr) ⟨hy, hab⟩ hS h
theorem wpAnyS_one {i : Nat} {o : Oper} {fuel : Nat} {listed : Array Bool} {a : Act} {w : World} (hr : Region.ready md ops listed = [i]) (ho : ops[i]? = some o)
    (h : ∀ K' : Act → World → Prop, (∀ a w, S w → wpAnyS F n P md ops Q S fuel (listed.setIfInBounds i true) a w → K' a w) → if Region.wanted o (yielded ops a.tmps) = true then Oper.wpIn F n P o a w K' Q else (∀ f, o.about P w a.eval = some f → F.fn f) ∧ K' (a.put o.dst undef) w) : wpAnyS F n P md ops Q S (fuel + 1) listed a w := by
  refine ⟨fun h0 => (by rw [h0] at hr; cases hr), fun j hj => ?_⟩
  rw [hr] at hj
  obtain rfl := List.mem_singleton.1 hj
  exact wpOpIn_step ho (fun K' hK => h K' (fun a w h1 h2 => hK a w ⟨h1, h2⟩))
theorem wpAnyS_done {listed : Array Bool} {a : Act} {w : World} (hr : Region.ready md ops listed = []) (h : Q .normal a w) : ∀ fuel, wpAnyS F n P md ops Q S fuel listed a w
  | 0 => ⟨hr, h⟩
  | _ + 1 => ⟨fun _ => h, by rw [hr]; simp⟩
theorem wpIn_region_S {id : Nat} {a : Act} {w : World} (S : World → Prop) (hm : P.follows .mixedOrders = true)
    (h : wpAnyS F n P .any ops Q S ops.size (Array.replicate ops.size false) a { w with drawn := w.drawn + 1 }) : (Code.region id ops true).wpIn F n P Q a w :=
  wpIn_region_any hm (wpAnyIn_of_S _ _ _ _ h)
end Go.Proofs.YtdlpgoackmgdkaaGreatDoor
