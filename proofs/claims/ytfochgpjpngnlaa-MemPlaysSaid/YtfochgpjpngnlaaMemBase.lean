/- A memory as it lies; its own bytes. -/
import Derived.Test.YtfochgpjpngnlaaRow
import Derived.Test.YtfochgpjpngnlaaCls
import Derived.Lib.SliceRun
import Derived.Laws.CopyOwn
import Derived.Laws.CopyRow
import Derived.OwnWalk
import Derived.WalkSpells
import Derived.Outline
import Derived.IntWalk
namespace Go.Proofs.Ytfochgpjpngnlaa
open Go.RowKit
set_option linter.unusedVariables false
theorem setCells_other (b : Nat) : ∀ (vs : List Value) (o : Nat) (w : World) (i : Nat), i ≠ b → (w.setCells b o vs).heap[i]? = w.heap[i]?
  | [], _, _, _, _ => rfl
  | v :: r, o, w, i, h => by show ((w.setCell ⟨b, o, none⟩ v).setCells b (o + 1) r).heap[i]? = _; rw [setCells_other b r (o + 1) _ i h, heap_setCell_other _ _ _ _ h]
theorem RowAt.setCells {b n : Nat} {t : TypeId} : ∀ (vs : List Value) (o : Nat) (w : World) (V : Nat → Value), RowAt w b t n V → RowAt (w.setCells b o vs) b t n (fun j => if o ≤ j ∧ j < o + vs.length then vs.getD (j - o) undef else V j)
  | [], o, w, V, h => h.congr fun i hi => by simp; intro h1 h2; omega
  | v :: r, o, w, V, h => by
    refine (RowAt.setCells r (o + 1) (w.setCell ⟨b, o, none⟩ v) _ (h.set (i := o) v)).congr fun i hi => ?_
    show (if o + 1 ≤ i ∧ i < o + 1 + r.length then r.getD (i - (o + 1)) undef else if i = o then v else V i) = if o ≤ i ∧ i < o + (v :: r).length then (v :: r).getD (i - o) undef else V i
    simp only [List.length_cons]
    by_cases e : i = o
    · subst e; rw [if_neg (by omega), if_pos rfl, if_pos (by omega)]; simp
    · by_cases h1 : o + 1 ≤ i ∧ i < o + 1 + r.length
      · rw [if_pos h1, if_pos (by omega)]
        obtain ⟨k, hk⟩ : ∃ k, i - o = k + 1 := ⟨i - o - 1, by omega⟩
        rw [hk, show i - (o + 1) = k by omega]; rfl
      · rw [if_neg h1, if_neg e, if_neg (by omega)]
theorem setCells_size (b : Nat) : ∀ (vs : List Value) (o : Nat) (w : World), (w.setCells b o vs).heap.size = w.heap.size
  | [], _, _ => rfl
  | v :: r, o, w => by show ((w.setCell ⟨b, o, none⟩ v).setCells b (o + 1) r).heap.size = _; rw [setCells_size b r]; simp [World.setCell]
theorem setCells_os (b : Nat) : ∀ (vs : List Value) (o : Nat) (w : World), (w.setCells b o vs).os = w.os ∧ (w.setCells b o vs).tape = w.tape ∧ (w.setCells b o vs).output = w.output
  | [], _, _ => ⟨rfl, rfl, rfl⟩
  | v :: r, o, w => setCells_os b r (o + 1) (w.setCell ⟨b, o, none⟩ v)
def bV (f : Nat → Nat) (i : Nat) : Value := .int .u8 ((f i : Nat) : Int)
theorem bV_one (f : Nat → Nat) (i : Nat) : (bV f i).oneCell' = true := rfl
theorem info_parts {t : TypeId} {z : Value} {s b : Nat} (h : (Try.prog.info? t).map (fun i => (i.zero, i.size, i.bytes)) = some (some z, s, b)) : ∃ i, Try.prog.info? t = some i ∧ i.zero = some z ∧ i.size = s ∧ i.bytes = b := by
  cases hi : Try.prog.info? t with
  | none => rw [hi] at h; simp at h
  | some i => rw [hi] at h; simp at h; exact ⟨i, rfl, h.1, h.2.1, h.2.2⟩
theorem infoU8 : (Try.prog.info? 5).map (fun i => (i.zero, i.size, i.bytes)) = some (some (.int .u8 0), 1, 1) := by kernel_rfl
theorem infoU8s : (Try.prog.info? 5).map (·.size) = some 1 := by kernel_rfl
theorem zeroU8 (w : World) : (zeroValue 5).run Try.prog w = .ok (.int .u8 0) w := by kernel_rfl
set_option maxHeartbeats 2000000 in
theorem clone_u8 (a : Option Addr) (n c : Nat) (V : Nat → Value) (w : World) (hV : ∀ i, (V i).oneCell' = true) (hn : n ≤ 1000000) (hs : SliceAt w a n V) :
    Calls Try.prog 28 #[.slice a n c] w fun e w' => ∃ v, e = .returned v ∧ (∃ b, SlAt w' v b 5 n V ∧ (0 < n → w.heap.size ≤ b ∧ b < w'.heap.size)) ∧ Below w.heap.size w w' := by
  cases a with
  | none =>
    have hn0 : n = 0 := hs.elim id (fun h => by obtain ⟨b, off, h, _⟩ := h; cases h)
    subst hn0
    have hk : ∀ w : World, (binOp .eql 35 (.slice none 0 c) (.slice none 0 0)).run Try.prog w = .ok (.bool true) w := fun w => Lib.run_eql_slice_nil w _ _ none 0 c 0 0 Try.underlying35
    go_enter Try.func28, Try.ntmps28
    go_wp2_with fail
    go_ret
    exact ⟨_, rfl, ⟨0, ⟨none, 0, rfl, Nat.le_refl _, by unfold maxLen; omega, fun hp => absurd hp (by omega)⟩, fun hp => absurd hp (by omega)⟩, Below.refl _ _⟩
  | some ad =>
    obtain ⟨i0, hi, hz0, hz1, hz2⟩ := info_parts infoU8
    have HIn := Lib.hid hi; have HZ0 := Lib.hid hz0; have HZ1 := Lib.hid hz1; have HZ2 := Lib.hid hz2
    have HS := Lib.hid hs
    have HV := Lib.hid hV
    clear hi hz0 hz1 hz2 hs hV
    have hk : ∀ w : World, (binOp .eql 35 (.slice (some ad) n c) (.slice none 0 0)).run Try.prog w = .ok (.bool false) w := fun w => Lib.run_eql_slice_nil w _ _ (some ad) n c 0 0 Try.underlying35
    go_enter Try.func28, Try.ntmps28
    have hown : ((w.alloc (.cells #[] 5)).ownsRow w.heap.size 5 1 (.slice (some ⟨w.heap.size, 0, none⟩) 0 0) 0 []) := ⟨rfl, .inr ⟨w.heap.size, 0, #[], rfl, Nat.le_refl _, heap_alloc_new _ _, Nat.le_refl _, by unfold maxLen; omega, rfl, rfl⟩⟩
    go_wp2_with (at_builtin; refine wpList_append_own _ rfl _ _ 35 rfl w.heap.size 5 i0 (.int .u8 0) 1 1 Try.underlying35 HIn.out HZ0.out HZ1.out HZ2.out rfl (by decide) _ 0 [] rfl hown ad n c ((List.range n).map V) rfl (by simp) ?c1 ?c2 ?c3 ?c4 ?c5 ?_)
    case c1 =>
      intro j u h
      have hj : j < n := by
        by_cases e : j < n
        · exact e
        · rw [List.getElem?_eq_none (by simp; omega)] at h; cases h
      obtain ⟨b', off, e, hlt, hc⟩ := HS.out.at (by omega)
      cases e
      rw [Go.WideShapes.add_plain, (Below.refl _ w).alloc (Nat.le_refl _) _ |>.cell hlt, hc j hj]
      simpa [hj] using h
    case c2 => intro u hu; obtain ⟨i, _, rfl⟩ := List.mem_map.1 hu; exact HV.out i
    case c3 => unfold maxLen; omega
    case c4 => omega
    case c5 => simp
    intro v' w1 hown1 hgr _
    have hB : Hid (Below w.heap.size w w1) := ((Below.refl _ w).alloc (Nat.le_refl _) _).grown hgr (by simp) (fun k e => by simp [Value.ownBlock] at e; omega)
    have hSl := Lib.hid (SlAt.of_own (V := V) hown1 (fun i hi => by simp [hi]))
    clear hown1 hgr hown hk
    go_wp2_with fail
    go_ret
    exact ⟨_, rfl, hSl.out, hB.out⟩
/-- A memory: g its block, b its bytes' block. -/
structure MS where
  (g b n : Nat)
  v : Value
  B : Nat → Nat
structure MemAt (w : World) (T : TypeId) (M : MS) : Prop where
  obj : w.heap[M.g]? = some (.cells #[M.v] T (0, 0))
  sl : SlAt w M.v M.b 5 M.n (bV M.B)
  n : M.n ≤ 262144
  lt : ∀ i, M.B i < 256
  ne : 0 < M.n → M.b ≠ M.g
/-- What a call on it may turn. -/
def MS.W (M : MS) (i : Nat) : Prop := 0 < M.n ∧ i = M.b
def MS.put (M : MS) (at_ m : Nat) (X : Nat → Nat) : MS := { M with B := fun j => if at_ ≤ j ∧ j < at_ + m then X (j - at_) else M.B j }
theorem MemAt.cell {w : World} {T : TypeId} {M : MS} (h : MemAt w T M) : w.cell? ⟨M.g, 0, none⟩ = some M.v := cell_row h.obj rfl
theorem MemAt.only {w w' : World} {T : TypeId} {M : MS} {K : Nat → Prop} (h : MemAt w T M) (ho : Only K w w') (hg : ¬ K M.g) (hb : 0 < M.n → ¬ K M.b) : MemAt w' T M :=
  ⟨(ho.block _ (heap_lt h.obj) hg).trans h.obj, h.sl.only ho hb, h.n, h.lt, h.ne⟩
theorem MemAt.below {w w' : World} {T : TypeId} {M : MS} (h : MemAt w T M) (hb : Below w.heap.size w w') : MemAt w' T M := h.only (K := fun _ => False) (Only.of_below _ hb) (fun h => h) (fun _ h => h)
/-- m bytes of its own, from at_ on. -/
structure PartOf (M : MS) (at_ : Nat) (a : Option Addr) (m c : Nat) : Prop where
  pos : 0 < m → a = some ⟨M.b, at_, none⟩ ∧ at_ + m ≤ M.n
  z : m = 0 → a = none
  c : m ≤ c ∧ c ≤ maxLen
theorem PartOf.at {w : World} {T : TypeId} {M : MS} {at_ m c : Nat} {a : Option Addr} (h : PartOf M at_ a m c) (hM : MemAt w T M) : SliceAt w a m (bV fun i => M.B (at_ + i)) := by
  by_cases hp : 0 < m
  · obtain ⟨rfl, h2⟩ := h.pos hp
    obtain ⟨a', c', -, -, -, h4⟩ := hM.sl
    have hr := (h4 (by omega)).2
    exact .inr ⟨M.b, at_, rfl, hr.lt, fun i hi => hr.cell (by omega)⟩
  · exact .inl (by omega)
theorem MemAt.put {w w1 : World} {T : TypeId} {M : MS} {at_ m : Nat} {X : Nat → Nat} (h : MemAt w T M) (hX : ∀ i, X i < 256) (hfit : 0 < m → at_ + m ≤ M.n)
    (hb : 0 < m → RowAt w1 M.b 5 M.n (bV (M.put at_ m X).B)) (hs : m = 0 → w1 = w) (ho : Only M.W w w1) : MemAt w1 T (M.put at_ m X) := by
  by_cases hp : 0 < m
  · have hn : 0 < M.n := by have := hfit hp; omega
    refine ⟨(ho.block _ (heap_lt h.obj) (fun e => h.ne hn e.2.symm)).trans h.obj, ?_, h.n, fun i => ?_, h.ne⟩
    · obtain ⟨a, c, e1, e2, e3, e4⟩ := h.sl
      exact ⟨a, c, e1, e2, e3, fun hn => ⟨(e4 hn).1, hb hp⟩⟩
    · show (if at_ ≤ i ∧ i < at_ + m then X (i - at_) else M.B i) < 256
      split
      · exact hX _
      · exact h.lt _
  · obtain rfl : m = 0 := by omega
    have e : M.put at_ 0 X = M := by
      unfold MS.put
      have : (fun j => if at_ ≤ j ∧ j < at_ + 0 then X (j - at_) else M.B j) = M.B := by funext j; rw [if_neg (by omega)]
      rw [this]
    rw [hs rfl, e]; exact h
theorem only_cells {w : World} {M : MS} (hn : 0 < M.n) (o : Nat) (vs : List Value) : Only M.W w (w.setCells M.b o vs) :=
  ⟨(setCells_os M.b vs o w).1, (setCells_os M.b vs o w).2.1, (setCells_os M.b vs o w).2.2, Nat.le_of_eq (setCells_size M.b vs o w).symm, fun i _ hi => setCells_other M.b vs o w i (fun e => hi ⟨hn, e⟩)⟩
/-- clear on bytes of its own. -/
theorem clear_part {w : World} {T : TypeId} {M : MS} {at_ m c : Nat} {a : Option Addr} (h : MemAt w T M) (hp : PartOf M at_ a m c) :
    ∃ w1, (∀ ty, (Builtin.clear_ #[35] ty #[.slice a m c]).run Try.prog w = .ok (.tuple #[]) w1) ∧ MemAt w1 T (M.put at_ m fun _ => 0) ∧ Only M.W w w1 := by
  by_cases hm : 0 < m
  · obtain ⟨rfl, h2⟩ := hp.pos hm
    obtain ⟨a', c', -, -, -, h4⟩ := h.sl
    have hr := (h4 (by omega)).2
    have hO := only_cells (w := w) (M := M) (by omega) at_ (List.replicate m (.int .u8 0))
    refine ⟨w.setCells M.b at_ (List.replicate m (.int .u8 0)), fun ty => Lib.run_clear_slice w _ _ ty _ Try.underlying35 zeroU8 rfl rfl M.b at_ m c hm (fun j hj => by rw [hr.cell (by omega)]; rfl) (fun j hj => hr.frozen _), ?_, hO⟩
    refine h.put (fun _ => by omega) (fun _ => h2) (fun _ => (hr.setCells _ at_ _ _).congr fun i hi => ?_) (fun e => by omega) hO
    show _ = Value.int .u8 (((if at_ ≤ i ∧ i < at_ + m then 0 else M.B i : Nat)) : Int)
    rw [List.length_replicate]
    by_cases e : at_ ≤ i ∧ i < at_ + m
    · rw [if_pos e, if_pos e, List.getD_eq_getElem?_getD, List.getElem?_replicate, if_pos (by omega)]; rfl
    · rw [if_neg e, if_neg e]; rfl
  · obtain rfl : m = 0 := by omega
    obtain rfl := hp.z rfl
    exact ⟨w, fun ty => by simp [Builtin.clear_, run_underlying Try.underlying35], h.put (fun _ => by omega) (fun h => absurd h (by omega)) (fun h => absurd h (by omega)) (fun _ => rfl) (Only.refl _ _), Only.refl _ _⟩
/-- copy onto bytes of its own, of as many. -/
theorem copy_part {w : World} {T : TypeId} {M : MS} {at_ m c : Nat} {a s : Option Addr} {k kc : Nat} {X : Nat → Nat} (h : MemAt w T M) (hp : PartOf M at_ a m c) (hX : SliceAt w s k (bV X)) (hl : ∀ i, X i < 256) (hk : m = k ∨ m = 0) :
    ∃ w1 r, (∀ ty, (Builtin.copy_ #[35, 35] ty #[.slice a m c, .slice s k kc]).run Try.prog w = .ok r w1) ∧ MemAt w1 T (M.put at_ m X) ∧ Only M.W w w1 := by
  by_cases hm : 0 < m
  · obtain ⟨rfl, h2⟩ := hp.pos hm
    obtain rfl : m = k := by omega
    obtain ⟨b', off, rfl, hlt, hc⟩ := hX.at hm
    obtain ⟨a', c', -, -, -, h4⟩ := h.sl
    obtain ⟨cur, r1, r2, r3⟩ := (h4 (by omega)).2
    have hlen : ((List.range m).map (bV X)).length = m := by simp
    have hO : Only M.W w (w.setRow M.b (cur.toList.take at_ ++ (List.range m).map (bV X) ++ cur.toList.drop (at_ + ((List.range m).map (bV X)).length)).toArray) := (Only.refl _ w).setRow _ (.inr ⟨by omega, rfl⟩)
    refine ⟨_, _, fun ty => run_copy_row (P := Try.prog) w 35 35 ty 5 M.b at_ m c ⟨b', off, none⟩ m kc cur 5 ((List.range m).map (bV X)) Try.underlying35 infoU8s r1 (by simp) (fun j v hj => by
        have hj' : j < m := by
          by_cases e : j < m
          · exact e
          · rw [List.getElem?_eq_none (by simp; omega)] at hj; cases hj
        rw [Go.WideShapes.add_plain, hc j hj']
        simpa [hj'] using hj) (by rw [hlen]; omega) (fun v hv => by obtain ⟨i, _, rfl⟩ := List.mem_map.1 hv; rfl), ?_, hO⟩
    refine h.put hl (fun _ => h2) (fun _ => ⟨_, setRow_heap w M.b _ _ 5 _ r1, by simp; omega, fun i hi => ?_⟩) (fun e => by omega) hO
    show _ = some (Value.int .u8 (((if at_ ≤ i ∧ i < at_ + m then X (i - at_) else M.B i : Nat)) : Int))
    have hsz : cur.toList.length = cur.size := by simp
    rw [List.getElem?_toArray, List.append_assoc]
    by_cases e1 : i < at_
    · rw [List.getElem?_append_left (by rw [List.length_take]; omega), List.getElem?_take, if_pos e1, if_neg (by omega)]
      have : cur[i]? = some (Value.int .u8 ((M.B i : Nat) : Int)) := r3 i hi
      simpa using this
    · rw [List.getElem?_append_right (by rw [List.length_take]; omega), List.length_take, Nat.min_eq_left (by omega)]
      by_cases e2 : i < at_ + m
      · rw [List.getElem?_append_left (by rw [hlen]; omega), if_pos ⟨by omega, e2⟩]
        simp [show i - at_ < m by omega, bV]
      · rw [List.getElem?_append_right (by rw [hlen]; omega), hlen, if_neg (by omega), List.getElem?_drop]
        have : cur[i]? = some (Value.int .u8 ((M.B i : Nat) : Int)) := r3 i hi
        rw [show at_ + m + (i - at_ - m) = i by omega]
        simpa using this
  · obtain rfl : m = 0 := by omega
    obtain rfl := hp.z rfl
    refine ⟨w, goInt 0, fun ty => ?_, h.put hl (fun h => absurd h (by omega)) (fun h => absurd h (by omega)) (fun _ => rfl) (Only.refl _ _), Only.refl _ _⟩
    exact run_copy_none w _ _ ty _ _ _ _ _ _ _ Try.underlying35 infoU8s (by simp)
end Go.Proofs.Ytfochgpjpngnlaa
